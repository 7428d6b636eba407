/- Texts of sets, by the reference: which set a text is. -/
import Derived.Test.YtihbdndigfnhkaaDoorBitH
import Derived.Test.YtihbdndigfnhkaaDoorBitI
namespace Go.Proofs.YtihbdndigfnhkaaDoor
open Go Go.Proofs Go.RowKit
set_option linter.unusedSimpArgs false
set_option linter.unusedVariables false
set_option maxRecDepth 100000

theorem isD_tJ {c : UInt8} (h1 : 48 ≤ c.toNat) (h2 : c.toNat ≤ 57) : isD c = true := by unfold isD; simp; omega
theorem isD_fJ {c : UInt8} (h : c.toNat < 48 ∨ 57 < c.toNat) : isD c = false := by unfold isD; simp; omega
theorem isD_bJ {c : UInt8} (h : isD c = true) : 48 ≤ c.toNat ∧ c.toNat ≤ 57 := by unfold isD at h; simpa using h
theorem byteJ (s : List UInt8) (k : Nat) (h : k < s.length) : ((((⟨s.toArray⟩ : ByteArray)[k]'(by show k < s.toArray.size; simpa using h)).toNat : Nat) : Int) = (((s.getD k 0).toNat : Nat) : Int) := by
  show ((s.toArray[k]'(by simpa using h)).toNat : Int) = _
  simp [List.getD_eq_getElem?_getD, h]
theorem scan_ex (l : List UInt8) : ∃ k, k ≤ 4 ∧ k ≤ l.length ∧ (l.take k).all isD = true ∧ (k = l.length ∨ isD (l.getD k 0) = false ∨ k = 4) := by
  have key : ∀ m, m ≤ 4 → m ≤ l.length → (∃ k, k ≤ 4 ∧ k ≤ l.length ∧ (l.take k).all isD = true ∧ (k = l.length ∨ isD (l.getD k 0) = false ∨ k = 4)) ∨ (l.take m).all isD = true := by
    intro m
    induction m with
    | zero => intro _ _; exact .inr (by simp)
    | succ m ih =>
      intro h1 h2
      rcases ih (by omega) (by omega) with h | h
      · exact .inl h
      · rcases hd : isD (l.getD m 0) with _ | _
        · exact .inl ⟨m, by omega, by omega, h, .inr (.inl hd)⟩
        · right
          rw [List.take_succ_eq_append_getElem (by omega), List.all_append, h]
          have : l[m]'(by omega) = l.getD m 0 := by rw [List.getD_eq_getElem?_getD, List.getElem?_eq_getElem (by omega)]; rfl
          simp only [List.all_cons, List.all_nil, Bool.and_true, Bool.true_and]
          rw [this]
          exact hd
  rcases key (min 4 l.length) (by omega) (by omega) with h | h
  · exact h
  · exact ⟨min 4 l.length, by omega, by omega, h, by omega⟩
theorem take_all (l : List UInt8) (k j : Nat) (h : (l.take k).all isD = true) (hj : j ≤ k) : (l.take j).all isD = true := by
  rw [List.all_eq_true] at h ⊢
  intro x hx
  exact h x (List.take_subset_take_left l hj hx)
theorem numV_step (l : List UInt8) (j : Nat) (hj : j < l.length) : numV (l.take (j + 1)) = 10 * numV (l.take j) + ((l.getD j 0).toNat - 48) := by
  rw [List.take_succ_eq_append_getElem hj, numV_snoc]
  have : l[j] = l.getD j 0 := by rw [List.getD_eq_getElem?_getD, List.getElem?_eq_getElem hj]; rfl
  rw [this]
/-- A list of flags from a function. -/
def bsF (n : Nat) (f : Nat → Bool) : List Bool := (List.range n).map f
theorem bsF_len (n : Nat) (f : Nat → Bool) : (bsF n f).length = n := by simp [bsF]
theorem bsF_get (n : Nat) (f : Nat → Bool) (i : Nat) (h : i < n) : (bsF n f).getD i false = f i := by simp [bsF, List.getD_eq_getElem?_getD, List.getElem?_range h]
theorem bsF_congr (n : Nat) (f g : Nat → Bool) (h : ∀ i, i < n → f i = g i) : bsF n f = bsF n g := List.map_congr_left (fun i hi => h i (List.mem_range.1 hi))
theorem bsF_set (n : Nat) (f : Nat → Bool) (q : Nat) (x : Bool) : (bsF n f).set q x = bsF n (fun i => if i = q then x else f i) := by
  apply List.ext_getElem
  · simp [bsF]
  · intro i h1 h2
    rw [List.getElem_set]
    simp only [bsF, List.getElem_map, List.getElem_range]
    by_cases h : q = i
    · rw [if_pos h, if_pos h.symm]
    · rw [if_neg h, if_neg (fun e => h e.symm)]
theorem bsF_zero (n : Nat) : List.replicate n false = bsF n (fun _ => false) := by
  unfold bsF
  rw [show (fun _ : Nat => false) = Function.const Nat false from rfl, List.map_const, List.length_range]
theorem infoBoJ : (Tryd.prog.info? 4).map (fun i => (i.zero, i.size, i.bytes)) = some (some (.bool false), 1, 1) := by kernel_rfl
theorem own_falJ (w : World) (e : TypeId) (k : Nat) (hk : k ≤ 1000000) : (w.alloc (.cells (madeCells #[.bool false] k) e)).ownsRow w.heap.size e 1 (.slice (some ⟨w.heap.size, 0, none⟩) k k) k (bw (List.replicate k false)) := by
  refine ⟨by simp [bw], .inr ⟨w.heap.size, k, madeCells #[.bool false] k, rfl, Nat.le_refl _, heap_alloc_new w _, Nat.le_refl _, by simp only [maxLen]; omega, ?_, ?_⟩⟩
  · simp [madeCells]
  · have : ∀ x, [Value.bool false][x % 1]?.getD default = Value.bool false := fun x => by rw [Nat.mod_one]; rfl
    simp [madeCells, bw, this]
    rw [show (fun x : Nat => Value.bool false) = Function.const Nat (Value.bool false) from rfl, List.map_const]
    simp
/-- The bits of the digits below 4 i + j. -/
def dgF (ds : List UInt8) (q : Nat) (p : Nat) : Bool := decide (p < q) && bitD ds p
theorem dgF_no (V : Nat) (ds : List UInt8) (q : Nat) (h : bitD ds q = false) : bsF V (dgF ds (q + 1)) = bsF V (dgF ds q) := bsF_congr _ _ _ (fun p hp => by
  unfold dgF
  by_cases hq : p = q
  · subst hq; rw [h]; simp
  · congr 1
    apply decide_eq_decide.2
    omega)
theorem dgF_yes (V : Nat) (ds : List UInt8) (q : Nat) (h : bitD ds q = true) : (bsF V (dgF ds q)).set q true = bsF V (dgF ds (q + 1)) := by
  rw [bsF_set]
  refine bsF_congr _ _ _ (fun p hp => ?_)
  unfold dgF
  by_cases hq : p = q
  · subst hq; rw [if_pos rfl, h, decide_eq_true (by omega)]; rfl
  · rw [if_neg hq]
    congr 1
    apply decide_eq_decide.2
    omega
theorem dgF_past (V : Nat) (ds : List UInt8) (q : Nat) (h : V ≤ q) : bsF V (dgF ds (q + 1)) = bsF V (dgF ds q) := bsF_congr _ _ _ (fun p hp => by
  unfold dgF
  rw [decide_eq_true (show p < q + 1 by omega), decide_eq_true (show p < q by omega)])
theorem dig_ok (V : Nat) (ds : List UInt8) (i : Nat) (hi : i < (V + 3) / 4) (h0 : 0 ≤ hexV (ds.getD i 0)) (h : ∀ j, j < 4 → bitD ds (4 * i + j) = true → 4 * i + j < V) : digOK V ds i = true := by
  unfold digOK
  rw [decide_eq_true h0, Bool.true_and]
  by_cases h4 : 4 * i + 4 ≤ V
  · rw [decide_eq_true h4]; rfl
  · rw [decide_eq_false h4, Bool.false_or, decide_eq_true_eq]
    refine nib_div _ _ (digN_lt ds i) (by omega) (fun j hj h5 => ?_)
    rcases hb : (digN ds i).testBit j with _ | _
    · rfl
    · have := h j hj (by unfold bitD; rw [show (4 * i + j) / 4 = i by omega, show (4 * i + j) % 4 = j by omega]; exact hb)
      omega
theorem dig_bad (V : Nat) (ds : List UInt8) (i j : Nat) (hi : i < (V + 3) / 4) (hj : j < 4) (hb : bitD ds (4 * i + j) = true) (hV : V ≤ 4 * i + j) : digOK V ds i = false := by
  have hb' : (digN ds i).testBit j = true := by
    unfold bitD at hb
    rwa [show (4 * i + j) / 4 = i by omega, show (4 * i + j) % 4 = j by omega] at hb
  have h1 : 2 ^ j ≤ digN ds i := Nat.ge_two_pow_of_testBit hb'
  have h2 : 2 ^ (V - 4 * i) ≤ 2 ^ j := Nat.pow_le_pow_right (by omega) (by omega)
  have h3 : 0 < digN ds i / 2 ^ (V - 4 * i) := Nat.div_pos (by omega) (Nat.two_pow_pos _)
  unfold digOK
  rw [decide_eq_false (show ¬ 4 * i + 4 ≤ V by omega), decide_eq_false (show ¬ digN ds i / 2 ^ (V - 4 * i) = 0 by omega)]
  simp
theorem dig_neg (V : Nat) (ds : List UInt8) (i : Nat) (h : hexV (ds.getD i 0) < 0) : digOK V ds i = false := by
  unfold digOK
  rw [decide_eq_false (show ¬ 0 ≤ hexV (ds.getD i 0) by omega)]
  rfl
theorem par_words (V : Nat) (ds : List UInt8) (hok : allOK V ds ((V + 3) / 4) = true) : wordsOf ((V + 63) / 64) (listF (bsF V (dgF ds (4 * ((V + 3) / 4)))) V) = parW V ds ((V + 3) / 4) := by
  unfold parW
  refine wordsOf_congr _ _ _ (fun p hp => ?_)
  unfold listF
  by_cases h : p < V
  · rw [decide_eq_true h, Bool.true_and, bsF_get _ _ _ h]
    rfl
  · rw [decide_eq_false h, Bool.false_and]
    by_cases h4 : p < 4 * ((V + 3) / 4)
    · rw [decide_eq_true h4, Bool.true_and]
      have h5 := List.all_eq_true.1 hok (p / 4) (List.mem_range.2 (by omega))
      rcases hb : bitD ds p with _ | _
      · rfl
      · have := dig_bad V ds (p / 4) (p % 4) (by omega) (by omega) (by rw [show 4 * (p / 4) + p % 4 = p by omega]; exact hb) (by omega)
        rw [this] at h5
        cases h5
    · rw [decide_eq_false h4, Bool.false_and]
theorem and_all : ((List.range 16).all fun D => ((bits .and .i64 (D : Int) 1 == 0) == !D.testBit 0) && ((bits .and .i64 ((D : Int) / 2) 1 == 0) == !D.testBit 1) && ((bits .and .i64 ((D : Int) / 4) 1 == 0) == !D.testBit 2) && ((bits .and .i64 ((D : Int) / 8) 1 == 0) == !D.testBit 3)) = true := by decide +kernel
theorem and_bits (D : Nat) (h : D < 16) : (bits .and .i64 (D : Int) 1 == 0) = (!D.testBit 0) ∧ (bits .and .i64 ((D : Int) / 2) 1 == 0) = (!D.testBit 1) ∧ (bits .and .i64 ((D : Int) / 4) 1 == 0) = (!D.testBit 2) ∧ (bits .and .i64 ((D : Int) / 8) 1 == 0) = (!D.testBit 3) := by
  have := List.all_eq_true.1 and_all D (List.mem_range.2 h)
  simp only [Bool.and_eq_true, beq_iff_eq] at this
  exact ⟨this.1.1.1, this.1.1.2, this.1.2, this.2⟩
def PR1 (l : List UInt8) (k : Nat) (n a : Value) : Prop := ∃ j : Nat, j ≤ k ∧ a = .int .i64 j ∧ n = .int .i64 (numV (l.take j))
def PR2 (w2 : World) (g V m : Nat) (ds : List UInt8) (i : Value) (wr : World) : Prop :=
  ∃ q : Nat, q ≤ m ∧ i = .int .i64 q ∧ Hid (allOK V ds q = true) ∧ wr.ownsRow w2.heap.size 4 1 (.slice (some ⟨g, 0, none⟩) V V) V (bw (bsF V (dgF ds (4 * q)))) ∧ Below w2.heap.size w2 wr
def PR3 (w2 : World) (g V I : Nat) (ds : List UInt8) (i : Value) (wr : World) : Prop :=
  ∃ j : Nat, j ≤ 4 ∧ i = .int .i64 j ∧ Hid (∀ x, x < j → bitD ds (I + x) = true → I + x < V) ∧ wr.ownsRow w2.heap.size 4 1 (.slice (some ⟨g, 0, none⟩) V V) V (bw (bsF V (dgF ds (I + j)))) ∧ Below w2.heap.size w2 wr
set_option maxHeartbeats 8000000 in
theorem rParse01_any (l : List UInt8) (w : World) (hl : l.length ≤ 10000) :
    Calls Tryd.prog 34 #[.string ⟨l.toArray⟩] w fun e w' => BitsRes w w' (parB l) e := by
  obtain ⟨k, hk4, hkl, hall, hx⟩ := scan_ex l
  have hsz := siz_of l k hk4 hkl hall hx
  have HBAD := Lib.hid (siz_bad l k hsz)
  have HDG := Lib.hid (fun j (h1 : j < k) => take_dig l k j hall h1 (by omega))
  have HST := Lib.hid (fun j (h1 : j < k) => numV_step l j (by omega))
  have HLT := Lib.hid (fun j (h1 : j ≤ k) => numV_lt (l.take j) (take_all l k j hall h1))
  obtain ⟨R, hR⟩ : ∃ R, parB l = R := ⟨_, rfl⟩
  rw [hR] at HBAD ⊢
  have HR := Lib.hid hR
  have HSZ := Lib.hid hsz
  have HX := Lib.hid hx
  have kR := Bk.new w #[.int .i64 0, .slice none 0 0] 24
  have hB1 := balloc (Below.refl _ w) (.cells #[.int .i64 0, .slice none 0 0] 24)
  clear hR hsz hx hall
  go_enter Tryd.func34, Tryd.ntmps34
  go_wp2_with fail
  generalize w.alloc (.cells #[.int .i64 0, .slice none 0 0] 24) = w1 at *
  obtain ⟨cR, fR, lR⟩ := kR.facts
  go_loop [4, 5] (PR1 l k) (fun _ a => k - (intOf a).toNat)
  case atStart => exact ⟨0, by omega, rfl, rfl⟩
  case round =>
    obtain ⟨j, hj, rfl, rfl⟩ := hrel
    have hVlt := HLT.out j hj
    have hV9 : numV (l.take j) ≤ 9999 := by
      have h2 : (l.take j).length ≤ 4 := by simp; omega
      have h3 : 10 ^ (l.take j).length ≤ 10 ^ 4 := Nat.pow_le_pow_right (by omega) h2
      omega
    by_cases hlt : j < k
    · have hd := HDG.out j hlt
      have HS := Lib.hid (HST.out j hlt)
      have hjl : j < l.length := by omega
      have hV8 : numV (l.take j) ≤ 999 := by
        have h2 : (l.take j).length ≤ 3 := by simp; omega
        have h3 : 10 ^ (l.take j).length ≤ 10 ^ 3 := Nat.pow_le_pow_right (by omega) h2
        omega
      have hxb := byteJ l j hjl
      obtain ⟨h1, h2⟩ := isD_bJ hd
      obtain ⟨c, hc⟩ : ∃ c, (l.getD j 0).toNat = c := ⟨_, rfl⟩
      rw [hc] at hxb h1 h2 HS
      have e1 : (48 : Int) ≤ (c : Int) := by omega
      have e2 : (c : Int) ≤ 57 := by omega
      have hjI : (j : Int) < (l.length : Int) := by omega
      have hj4 : (j : Int) < 4 := by omega
      generalize numV (l.take j) = V at *
      clear hd hc hVlt hV9
      go_wp2_with fail
      go_round
      case rel => exact ⟨j + 1, by omega, by go_num, by rw [HS.out]; exact val_int (by omega)⟩
      case measure => simp [intOf]; omega
    · obtain rfl : j = k := by omega
      obtain ⟨V, hVV⟩ : ∃ V, numV (l.take j) = V := ⟨_, rfl⟩
      rw [hVV] at hV9 ⊢
      have HVV := Lib.hid hVV
      clear hVlt hVV HST HDG
      obtain ⟨c, hc⟩ : ∃ c, (l.getD j 0).toNat = c := ⟨_, rfl⟩
      have hxb := byteJ l j
      rw [hc] at hxb
      have HXC : Hid (j = l.length ∨ c < 48 ∨ 57 < c ∨ j = 4) := Lib.hid (by
        rcases HX.out with h | h | h
        · exact .inl h
        · by_cases h1 : c < 48
          · exact .inr (.inl h1)
          · by_cases h2 : 57 < c
            · exact .inr (.inr (.inl h2))
            · rw [isD_tJ (by omega) (by omega)] at h; cases h
        · exact .inr (.inr (.inr h)))
      have HC58 : Hid (l.getD j 0 = 58 ↔ c = 58) := Lib.hid ⟨fun h => by rw [← hc, h]; rfl, fun h => UInt8.toNat_inj.1 (by rw [hc, h]; rfl)⟩
      clear hc HX
      by_cases hj0 : j = 0
      · have HV := Lib.hid (HBAD.out (by unfold sizC; rw [decide_eq_true hj0]; simp))
        have ez : ((j : Int) == 0) = true := by simp; omega
        have hex : (¬ (j : Int) < (l.length : Int)) ∨ (j < l.length ∧ (j : Int) < (l.length : Int) ∧ ¬ (48 : Int) ≤ (c : Int)) ∨ (j < l.length ∧ (j : Int) < (l.length : Int) ∧ (48 : Int) ≤ (c : Int) ∧ ¬ (c : Int) ≤ 57) := by
          have := HXC.out; omega
        clear hj0 HBAD HSZ HXC HC58
        rcases hex with hn | ⟨hjl, hjI, h1⟩ | ⟨hjl, hjI, h1, h2⟩
        · clear hxb
          go_wp2_with fail
          have kF := kR.put2' (.int .i64 0) (.slice none 0 0)
          have hBF := below_put2' (p := w.heap.size) hB1 (Nat.le_refl _) (.int .i64 0) (.slice none 0 0)
          clear cR fR lR
          generalize ((w1.setCell ⟨w.heap.size, 0, none⟩ (.int .i64 0)).setCell ⟨w.heap.size, 1, none⟩ (.slice none 0 0)) = wF at *
          obtain ⟨cF, fF, lF⟩ := kF.facts
          exact bodyPost_ret (v := .tuple #[.agg #[.int .i64 0, .slice none 0 0], .int .i64 3]) (by simp [results, Tryd.results34, go_sem, cF]) rfl ⟨none, 0, 0, by rw [HV.out], by rw [HV.out]; exact own_nil _ _ _ _, hBF⟩
        · replace hxb := hxb hjl
          go_wp2_with fail
          have kF := kR.put2' (.int .i64 0) (.slice none 0 0)
          have hBF := below_put2' (p := w.heap.size) hB1 (Nat.le_refl _) (.int .i64 0) (.slice none 0 0)
          clear cR fR lR
          generalize ((w1.setCell ⟨w.heap.size, 0, none⟩ (.int .i64 0)).setCell ⟨w.heap.size, 1, none⟩ (.slice none 0 0)) = wF at *
          obtain ⟨cF, fF, lF⟩ := kF.facts
          exact bodyPost_ret (v := .tuple #[.agg #[.int .i64 0, .slice none 0 0], .int .i64 3]) (by simp [results, Tryd.results34, go_sem, cF]) rfl ⟨none, 0, 0, by rw [HV.out], by rw [HV.out]; exact own_nil _ _ _ _, hBF⟩
        · replace hxb := hxb hjl
          go_wp2_with fail
          have kF := kR.put2' (.int .i64 0) (.slice none 0 0)
          have hBF := below_put2' (p := w.heap.size) hB1 (Nat.le_refl _) (.int .i64 0) (.slice none 0 0)
          clear cR fR lR
          generalize ((w1.setCell ⟨w.heap.size, 0, none⟩ (.int .i64 0)).setCell ⟨w.heap.size, 1, none⟩ (.slice none 0 0)) = wF at *
          obtain ⟨cF, fF, lF⟩ := kF.facts
          exact bodyPost_ret (v := .tuple #[.agg #[.int .i64 0, .slice none 0 0], .int .i64 3]) (by simp [results, Tryd.results34, go_sem, cF]) rfl ⟨none, 0, 0, by rw [HV.out], by rw [HV.out]; exact own_nil _ _ _ _, hBF⟩
      · have ez : ((j : Int) == 0) = false := by simp; omega
        have hl0 : 0 < l.length := by omega
        have hxb0 := byteJ l 0 hl0
        obtain ⟨c0, hc0⟩ : ∃ c, (l.getD 0 0).toNat = c := ⟨_, rfl⟩
        rw [hc0] at hxb0
        have HC0 : Hid (c0 = 48 → l.getD 0 0 = 48) := Lib.hid (fun h => UInt8.toNat_inj.1 (by rw [hc0, h]; rfl))
        have HD0 : Hid (l.getD 0 0 = 48 → c0 = 48) := Lib.hid (fun h => by rw [← hc0, h]; rfl)
        have hl0I : (0 : Int) < (l.length : Int) := by omega
        clear hc0
        by_cases h58 : j < l.length ∧ c = 58
        · obtain ⟨hjl, h58⟩ := h58
          replace hxb := hxb hjl
          have hjI : (j : Int) < (l.length : Int) := by omega
          have hjI2 : ¬ (l.length : Int) ≤ (j : Int) := by omega
          subst h58
          have hxb58 := hxb.trans (show (((58 : Nat)) : Int) = 58 from rfl)
          clear hxb
          by_cases hlead : 1 < j ∧ c0 = 48
          · have HV := Lib.hid (HBAD.out (by unfold sizC; rw [decide_eq_true hlead.1, decide_eq_true (HC0.out hlead.2)]; simp))
            have e48 : ((c0 : Int) == 48) = true := by simp; omega
            have h1j : (1 : Int) < (j : Int) := by omega
            clear hlead hj0 HBAD HSZ HXC HC58 HC0 HD0
            go_wp2_with fail
            have kF := kR.put2' (.int .i64 0) (.slice none 0 0)
            have hBF := below_put2' (p := w.heap.size) hB1 (Nat.le_refl _) (.int .i64 0) (.slice none 0 0)
            clear cR fR lR
            generalize ((w1.setCell ⟨w.heap.size, 0, none⟩ (.int .i64 0)).setCell ⟨w.heap.size, 1, none⟩ (.slice none 0 0)) = wF at *
            obtain ⟨cF, fF, lF⟩ := kF.facts
            exact bodyPost_ret (v := .tuple #[.agg #[.int .i64 0, .slice none 0 0], .int .i64 3]) (by simp [results, Tryd.results34, go_sem, cF]) rfl ⟨none, 0, 0, by rw [HV.out], by rw [HV.out]; exact own_nil _ _ _ _, hBF⟩
          · have hnl : (((c0 : Int) == 48) = false) ∨ (((c0 : Int) == 48) = true ∧ ¬ (1 : Int) < (j : Int)) := by
              by_cases h : c0 = 48
              · exact .inr ⟨by simp; omega, by omega⟩
              · exact .inl (by simp; omega)
            by_cases hlen : l.length - j - 1 = (V + 3) / 4
            · have hS : sizC l j = false := by
                unfold sizC
                rw [HVV.out, decide_eq_false hj0, decide_eq_false (show ¬ l.length ≤ j by omega), decide_eq_false (show ¬ l.getD j 0 ≠ 58 from fun h => h (HC58.out.2 rfl)), decide_eq_false (show ¬ l.length - j - 1 ≠ (V + 3) / 4 by omega)]
                have : (decide (1 < j) && decide (l.getD 0 0 = 48)) = false := by
                  rw [Bool.and_eq_false_iff]
                  simp only [decide_eq_false_iff_not]
                  by_cases h : 1 < j
                  · exact .inr (fun h' => hlead ⟨h, HD0.out h'⟩)
                  · exact .inl h
                rw [this]; simp
              have hsz := HSZ.out
              rw [hS, if_neg (by simp), HVV.out] at hsz
              have hRe := HR.out
              unfold parB at hRe
              rw [hsz] at hRe
              simp only at hRe
              have hds : (l.drop (j + 1)).length = (V + 3) / 4 := by simp; omega
              rw [hds] at hRe
              have HRE := Lib.hid hRe
              have elen : ((l.length : Int) - (j : Int) - 1 != ((V : Int) + 3) / 4) = false := by rw [bne_eq_false_iff_eq]; omega
              clear hS hsz hRe hlen hlead hj0 HBAD HSZ HXC HC58 HC0 HD0
              rcases hnl with e48 | ⟨e48, h1j⟩
              all_goals
                go_upto_region 7 with fail
                clear hxb58 hxb0 ez elen hl0I e48
                obtain ⟨ds, hdd⟩ : ∃ ds, l.drop (j + 1) = ds := ⟨_, rfl⟩
                obtain ⟨m, hm⟩ : ∃ m, (V + 3) / 4 = m := ⟨_, rfl⟩
                rw [hdd, hm] at HRE hds
                have HG := Lib.hid (show ∀ q, ds.getD q 0 = l.getD (j + 1 + q) 0 from fun q => by rw [← hdd, List.getD_eq_getElem?_getD, List.getElem?_drop, ← List.getD_eq_getElem?_getD])
                have hmI : ((V : Int) + 3) / 4 = (m : Int) := by omega
                have hlm : l.length = j + 1 + m := by have := congrArg List.length hdd; simp at this; omega
                have HM := Lib.hid hm
                have hm2 : 4 * m ≤ V + 3 := by omega
                have hm3 : V ≤ 4 * m := by omega
                have hmk := run_make_row' (P := Tryd.prog) 64 4 (.bool false) 1 Tryd.underlying64 infoBoJ rfl .i64 .i64 V (by omega) (by omega)
                have hown := own_falJ w1 4 V (by omega)
                rw [bsF_zero, show bsF V (fun _ => false) = bsF V (dgF ds (4 * 0)) from bsF_congr _ _ _ (fun p _ => by simp [dgF])] at hown
                have hB := balloc (Below.refl w1.heap.size w1) (.cells (madeCells #[.bool false] V) 4)
                clear hdd hm cR fR lR hds
                go_wp2_with fail
                go_loopw [7] (PR2 w1 w1.heap.size V m ds) (fun i _ => m - (intOf i).toNat)
                case atStart => exact ⟨0, by omega, rfl, Lib.hid rfl, hown, hB⟩
                case round =>
                  clear hown hB hmk
                  obtain ⟨q, hq, rfl, HA, hown, hB⟩ := hrel
                  have kRr := kR.to hB
                  have hBr := bnext hB1 hB
                  obtain ⟨cR, fR, lR⟩ := kRr.facts
                  by_cases hqm : q < m
                  · have hxq := byteJ l (j + 1 + q) (by omega)
                    rw [← HG.out q] at hxq
                    obtain ⟨C, hC⟩ : ∃ C, ds.getD q 0 = C := ⟨_, rfl⟩
                    rw [hC] at hxq
                    have HC := Lib.hid hC
                    have hvb := hexV_bd C
                    have hI3 : ((j : Int) + 1 + (q : Int)).toNat = j + 1 + q := by omega
                    have hI4 : (j : Int) + 1 + (q : Int) < (l.length : Int) := by omega
                    have hI5 : (0 : Int) ≤ (j : Int) + 1 + (q : Int) := by omega
                    have hqI : (q : Int) < (m : Int) := by omega
                    have HVA := Lib.hid (fun w => rvalue_any C w)
                    clear hC
                    by_cases hneg : hexV C < 0
                    · have HV : Hid (R = (0, [], 3)) := Lib.hid (by rw [← HRE.out, if_neg (by rw [allOK_no V ds q m (dig_neg V ds q (by rw [HC.out]; exact hneg)) hqm]; simp)])
                      generalize hexV C = z at *
                      go_wp2_with (go_at_call 62; refine (HVA.out _).mono ?_; rintro e w' ⟨rfl, rfl⟩)
                      have kF := kRr.put2' (.int .i64 0) (.slice none 0 0)
                      have hBF := below_put2' (p := w.heap.size) hBr (Nat.le_refl _) (.int .i64 0) (.slice none 0 0)
                      clear cR fR lR
                      generalize ((wr.setCell ⟨w.heap.size, 0, none⟩ (.int .i64 0)).setCell ⟨w.heap.size, 1, none⟩ (.slice none 0 0)) = wF at *
                      obtain ⟨cF, fF, lF⟩ := kF.facts
                      exact bodyPost_ret (v := .tuple #[.agg #[.int .i64 0, .slice none 0 0], .int .i64 3]) (by simp [results, Tryd.results34, go_sem, cF]) rfl ⟨none, 0, 0, by rw [HV.out], by rw [HV.out]; exact own_nil _ _ _ _, hBF⟩
                    · obtain ⟨D, hD⟩ : ∃ D : Nat, hexV C = D := ⟨(hexV C).toNat, by omega⟩
                      have hD16 : D < 16 := by omega
                      have HDN : Hid (digN ds q = D) := Lib.hid (by unfold digN; rw [HC.out, hD]; rfl)
                      have HH0 : Hid (0 ≤ hexV (ds.getD q 0)) := Lib.hid (by rw [HC.out]; omega)
                      rw [hD] at HVA
                      obtain ⟨I, hI⟩ : ∃ I, 4 * q = I := ⟨_, rfl⟩
                      have HI := Lib.hid hI
                      have HBD : Hid (∀ x, x < 4 → bitD ds (I + x) = D.testBit x) := Lib.hid (fun x hx => by unfold bitD; rw [← hI, show (4 * q + x) / 4 = q by omega, show (4 * q + x) % 4 = x by omega, HDN.out])
                      rw [hI] at hown
                      clear hD hvb hneg cR fR lR hI
                      go_wp2_with (go_at_call 62; refine (HVA.out _).mono ?_; rintro e w' ⟨rfl, rfl⟩)
                      go_loopw [9] (PR3 w1 w1.heap.size V I ds) (fun i _ => 4 - (intOf i).toNat)
                      case atStart => exact ⟨0, by omega, rfl, Lib.hid (fun x h => absurd h (Nat.not_lt_zero _)), hown, hB⟩
                      case round =>
                        clear hown hB kRr hBr
                        obtain ⟨x, hx4, rfl, HP, hown, hB⟩ := hrel
                        by_cases hx : x < 4
                        · have h4 : x = 0 ∨ x = 1 ∨ x = 2 ∨ x = 3 := by omega
                          obtain ⟨b0, b1, b2, b3⟩ := and_bits D hD16
                          rcases h4 with rfl | rfl | rfl | rfl
                          · have hbx := HBD.out 0 (by omega)
                            have hidx : (4 * (q : Int)).toNat = I := by have := HI.out; omega
                            have hin : (0 : Int) ≤ 4 * (q : Int) := by omega
                            have HX2 : Hid ((bitD ds (I + 0) = true → I + 0 < V) → ∀ y, y < 0 + 1 → bitD ds (I + y) = true → I + y < V) := Lib.hid (fun h y h1 => by
                              by_cases e : y = 0
                              · subst e; exact h
                              · exact HP.out y (by omega))
                            clear hidx hin
                            rcases hbt : D.testBit 0 with _ | _
                            · rw [hbt] at b0 hbx
                              have HN := Lib.hid (dgF_no V ds (I + 0) hbx)
                              have HQ := Lib.hid (HX2.out (fun h => by rw [hbx] at h; cases h))
                              have b2' : (bits .and .i64 (D : Int) 1 == 0) = true := b0
                              clear b0 b1 b2 b3 hbt hbx HX2
                              go_wp2_with fail
                              go_roundw
                              case rel => exact ⟨0 + 1, by omega, by go_num, HQ, by rw [show I + (0 + 1) = I + 0 + 1 from rfl, HN.out]; exact hown, hB⟩
                              case measure => simp [intOf]
                            · rw [hbt] at b0 hbx
                              have b2' : (bits .and .i64 (D : Int) 1 == 0) = false := b0
                              by_cases hV : V ≤ I + 0
                              · exfalso
                                have := HM.out
                                have := HI.out
                                omega
                              · have hVI : ¬ (V : Int) ≤ 4 * (q : Int) := by have := HI.out; omega
                                have hidx : (4 * (q : Int)).toNat = I := by have := HI.out; omega
                                have hin : (0 : Int) ≤ 4 * (q : Int) := by omega
                                have HQ := Lib.hid (HX2.out (fun _ => by omega))
                                have HY := Lib.hid (dgF_yes V ds (I + 0) hbx)
                                have hcw := own_boolAt hown (i := I) (by omega)
                                have hfw := hown.frozenAt (I)
                                have hst := own_putB hown (I) true
                                clear b0 b1 b2 b3 hbt hbx HX2 hV
                                generalize (bsF V (dgF ds (I + 0))).getD (I) false = u at hcw
                                go_wp2_with fail
                                go_roundw
                                case rel => exact ⟨0 + 1, by omega, by go_num, HQ, by rw [show I + (0 + 1) = I + 0 + 1 from rfl, ← HY.out]; exact hst, hB.setCell (p := ⟨w1.heap.size, I, none⟩) (Nat.le_refl _) _⟩
                                case measure => simp [intOf]
                          · have hbx := HBD.out 1 (by omega)
                            have hidx : (4 * (q : Int) + 1).toNat = I + 1 := by have := HI.out; omega
                            have hin : (0 : Int) ≤ 4 * (q : Int) + 1 := by omega
                            have HX2 : Hid ((bitD ds (I + 1) = true → I + 1 < V) → ∀ y, y < 1 + 1 → bitD ds (I + y) = true → I + y < V) := Lib.hid (fun h y h1 => by
                              by_cases e : y = 1
                              · subst e; exact h
                              · exact HP.out y (by omega))
                            clear hidx hin
                            rcases hbt : D.testBit 1 with _ | _
                            · rw [hbt] at b1 hbx
                              have HN := Lib.hid (dgF_no V ds (I + 1) hbx)
                              have HQ := Lib.hid (HX2.out (fun h => by rw [hbx] at h; cases h))
                              have b2' : (bits .and .i64 ((D : Int) / 2) 1 == 0) = true := b1
                              clear b0 b1 b2 b3 hbt hbx HX2
                              go_wp2_with fail
                              go_roundw
                              case rel => exact ⟨1 + 1, by omega, by go_num, HQ, by rw [show I + (1 + 1) = I + 1 + 1 from rfl, HN.out]; exact hown, hB⟩
                              case measure => simp [intOf]
                            · rw [hbt] at b1 hbx
                              have b2' : (bits .and .i64 ((D : Int) / 2) 1 == 0) = false := b1
                              by_cases hV : V ≤ I + 1
                              · have hVI : (V : Int) ≤ 4 * (q : Int) + 1 := by have := HI.out; omega
                                have HV : Hid (R = (0, [], 3)) := Lib.hid (by rw [← HRE.out, if_neg (by rw [allOK_no V ds q m (dig_bad V ds q 1 (by have := HM.out; omega) (by omega) (by rw [HI.out]; exact hbx) (by have := HI.out; omega)) hqm]; simp)])
                                have kRr := kR.to hB
                                have hBr := bnext hB1 hB
                                obtain ⟨cR, fR, lR⟩ := kRr.facts
                                clear b0 b1 b2 b3 hbt hbx HX2 hV
                                go_wp2_with fail
                                have kF := kRr.put2' (.int .i64 0) (.slice none 0 0)
                                have hBF := below_put2' (p := w.heap.size) hBr (Nat.le_refl _) (.int .i64 0) (.slice none 0 0)
                                clear cR fR lR
                                generalize ((wr.setCell ⟨w.heap.size, 0, none⟩ (.int .i64 0)).setCell ⟨w.heap.size, 1, none⟩ (.slice none 0 0)) = wF at *
                                obtain ⟨cF, fF, lF⟩ := kF.facts
                                exact bodyPost_ret (v := .tuple #[.agg #[.int .i64 0, .slice none 0 0], .int .i64 3]) (by simp [results, Tryd.results34, go_sem, cF]) rfl ⟨none, 0, 0, by rw [HV.out], by rw [HV.out]; exact own_nil _ _ _ _, hBF⟩
                              · have hVI : ¬ (V : Int) ≤ 4 * (q : Int) + 1 := by have := HI.out; omega
                                have hidx : (4 * (q : Int) + 1).toNat = I + 1 := by have := HI.out; omega
                                have hin : (0 : Int) ≤ 4 * (q : Int) + 1 := by omega
                                have HQ := Lib.hid (HX2.out (fun _ => by omega))
                                have HY := Lib.hid (dgF_yes V ds (I + 1) hbx)
                                have hcw := own_boolAt hown (i := I + 1) (by omega)
                                have hfw := hown.frozenAt (I + 1)
                                have hst := own_putB hown (I + 1) true
                                clear b0 b1 b2 b3 hbt hbx HX2 hV
                                generalize (bsF V (dgF ds (I + 1))).getD (I + 1) false = u at hcw
                                go_wp2_with fail
                                go_roundw
                                case rel => exact ⟨1 + 1, by omega, by go_num, HQ, by rw [show I + (1 + 1) = I + 1 + 1 from rfl, ← HY.out]; exact hst, hB.setCell (p := ⟨w1.heap.size, I + 1, none⟩) (Nat.le_refl _) _⟩
                                case measure => simp [intOf]
                          · have hbx := HBD.out 2 (by omega)
                            have hidx : (4 * (q : Int) + 2).toNat = I + 2 := by have := HI.out; omega
                            have hin : (0 : Int) ≤ 4 * (q : Int) + 2 := by omega
                            have HX2 : Hid ((bitD ds (I + 2) = true → I + 2 < V) → ∀ y, y < 2 + 1 → bitD ds (I + y) = true → I + y < V) := Lib.hid (fun h y h1 => by
                              by_cases e : y = 2
                              · subst e; exact h
                              · exact HP.out y (by omega))
                            clear hidx hin
                            rcases hbt : D.testBit 2 with _ | _
                            · rw [hbt] at b2 hbx
                              have HN := Lib.hid (dgF_no V ds (I + 2) hbx)
                              have HQ := Lib.hid (HX2.out (fun h => by rw [hbx] at h; cases h))
                              have b2' : (bits .and .i64 ((D : Int) / 4) 1 == 0) = true := b2
                              clear b0 b1 b2 b3 hbt hbx HX2
                              go_wp2_with fail
                              go_roundw
                              case rel => exact ⟨2 + 1, by omega, by go_num, HQ, by rw [show I + (2 + 1) = I + 2 + 1 from rfl, HN.out]; exact hown, hB⟩
                              case measure => simp [intOf]
                            · rw [hbt] at b2 hbx
                              have b2' : (bits .and .i64 ((D : Int) / 4) 1 == 0) = false := b2
                              by_cases hV : V ≤ I + 2
                              · have hVI : (V : Int) ≤ 4 * (q : Int) + 2 := by have := HI.out; omega
                                have HV : Hid (R = (0, [], 3)) := Lib.hid (by rw [← HRE.out, if_neg (by rw [allOK_no V ds q m (dig_bad V ds q 2 (by have := HM.out; omega) (by omega) (by rw [HI.out]; exact hbx) (by have := HI.out; omega)) hqm]; simp)])
                                have kRr := kR.to hB
                                have hBr := bnext hB1 hB
                                obtain ⟨cR, fR, lR⟩ := kRr.facts
                                clear b0 b1 b2 b3 hbt hbx HX2 hV
                                go_wp2_with fail
                                have kF := kRr.put2' (.int .i64 0) (.slice none 0 0)
                                have hBF := below_put2' (p := w.heap.size) hBr (Nat.le_refl _) (.int .i64 0) (.slice none 0 0)
                                clear cR fR lR
                                generalize ((wr.setCell ⟨w.heap.size, 0, none⟩ (.int .i64 0)).setCell ⟨w.heap.size, 1, none⟩ (.slice none 0 0)) = wF at *
                                obtain ⟨cF, fF, lF⟩ := kF.facts
                                exact bodyPost_ret (v := .tuple #[.agg #[.int .i64 0, .slice none 0 0], .int .i64 3]) (by simp [results, Tryd.results34, go_sem, cF]) rfl ⟨none, 0, 0, by rw [HV.out], by rw [HV.out]; exact own_nil _ _ _ _, hBF⟩
                              · have hVI : ¬ (V : Int) ≤ 4 * (q : Int) + 2 := by have := HI.out; omega
                                have hidx : (4 * (q : Int) + 2).toNat = I + 2 := by have := HI.out; omega
                                have hin : (0 : Int) ≤ 4 * (q : Int) + 2 := by omega
                                have HQ := Lib.hid (HX2.out (fun _ => by omega))
                                have HY := Lib.hid (dgF_yes V ds (I + 2) hbx)
                                have hcw := own_boolAt hown (i := I + 2) (by omega)
                                have hfw := hown.frozenAt (I + 2)
                                have hst := own_putB hown (I + 2) true
                                clear b0 b1 b2 b3 hbt hbx HX2 hV
                                generalize (bsF V (dgF ds (I + 2))).getD (I + 2) false = u at hcw
                                go_wp2_with fail
                                go_roundw
                                case rel => exact ⟨2 + 1, by omega, by go_num, HQ, by rw [show I + (2 + 1) = I + 2 + 1 from rfl, ← HY.out]; exact hst, hB.setCell (p := ⟨w1.heap.size, I + 2, none⟩) (Nat.le_refl _) _⟩
                                case measure => simp [intOf]
                          · have hbx := HBD.out 3 (by omega)
                            have hidx : (4 * (q : Int) + 3).toNat = I + 3 := by have := HI.out; omega
                            have hin : (0 : Int) ≤ 4 * (q : Int) + 3 := by omega
                            have HX2 : Hid ((bitD ds (I + 3) = true → I + 3 < V) → ∀ y, y < 3 + 1 → bitD ds (I + y) = true → I + y < V) := Lib.hid (fun h y h1 => by
                              by_cases e : y = 3
                              · subst e; exact h
                              · exact HP.out y (by omega))
                            clear hidx hin
                            rcases hbt : D.testBit 3 with _ | _
                            · rw [hbt] at b3 hbx
                              have HN := Lib.hid (dgF_no V ds (I + 3) hbx)
                              have HQ := Lib.hid (HX2.out (fun h => by rw [hbx] at h; cases h))
                              have b2' : (bits .and .i64 ((D : Int) / 8) 1 == 0) = true := b3
                              clear b0 b1 b2 b3 hbt hbx HX2
                              go_wp2_with fail
                              go_roundw
                              case rel => exact ⟨3 + 1, by omega, by go_num, HQ, by rw [show I + (3 + 1) = I + 3 + 1 from rfl, HN.out]; exact hown, hB⟩
                              case measure => simp [intOf]
                            · rw [hbt] at b3 hbx
                              have b2' : (bits .and .i64 ((D : Int) / 8) 1 == 0) = false := b3
                              by_cases hV : V ≤ I + 3
                              · have hVI : (V : Int) ≤ 4 * (q : Int) + 3 := by have := HI.out; omega
                                have HV : Hid (R = (0, [], 3)) := Lib.hid (by rw [← HRE.out, if_neg (by rw [allOK_no V ds q m (dig_bad V ds q 3 (by have := HM.out; omega) (by omega) (by rw [HI.out]; exact hbx) (by have := HI.out; omega)) hqm]; simp)])
                                have kRr := kR.to hB
                                have hBr := bnext hB1 hB
                                obtain ⟨cR, fR, lR⟩ := kRr.facts
                                clear b0 b1 b2 b3 hbt hbx HX2 hV
                                go_wp2_with fail
                                have kF := kRr.put2' (.int .i64 0) (.slice none 0 0)
                                have hBF := below_put2' (p := w.heap.size) hBr (Nat.le_refl _) (.int .i64 0) (.slice none 0 0)
                                clear cR fR lR
                                generalize ((wr.setCell ⟨w.heap.size, 0, none⟩ (.int .i64 0)).setCell ⟨w.heap.size, 1, none⟩ (.slice none 0 0)) = wF at *
                                obtain ⟨cF, fF, lF⟩ := kF.facts
                                exact bodyPost_ret (v := .tuple #[.agg #[.int .i64 0, .slice none 0 0], .int .i64 3]) (by simp [results, Tryd.results34, go_sem, cF]) rfl ⟨none, 0, 0, by rw [HV.out], by rw [HV.out]; exact own_nil _ _ _ _, hBF⟩
                              · have hVI : ¬ (V : Int) ≤ 4 * (q : Int) + 3 := by have := HI.out; omega
                                have hidx : (4 * (q : Int) + 3).toNat = I + 3 := by have := HI.out; omega
                                have hin : (0 : Int) ≤ 4 * (q : Int) + 3 := by omega
                                have HQ := Lib.hid (HX2.out (fun _ => by omega))
                                have HY := Lib.hid (dgF_yes V ds (I + 3) hbx)
                                have hcw := own_boolAt hown (i := I + 3) (by omega)
                                have hfw := hown.frozenAt (I + 3)
                                have hst := own_putB hown (I + 3) true
                                clear b0 b1 b2 b3 hbt hbx HX2 hV
                                generalize (bsF V (dgF ds (I + 3))).getD (I + 3) false = u at hcw
                                go_wp2_with fail
                                go_roundw
                                case rel => exact ⟨3 + 1, by omega, by go_num, HQ, by rw [show I + (3 + 1) = I + 3 + 1 from rfl, ← HY.out]; exact hst, hB.setCell (p := ⟨w1.heap.size, I + 3, none⟩) (Nat.le_refl _) _⟩
                                case measure => simp [intOf]
                        · obtain rfl : x = 4 := by omega
                          have HA2 : Hid (allOK V ds (q + 1) = true) := Lib.hid (by rw [allOK_succ, HA.out, dig_ok V ds q (by have := HM.out; omega) HH0.out (fun x h1 h2 => by rw [HI.out] at h2 ⊢; exact HP.out x h1 h2)]; rfl)
                          rw [show I + 4 = 4 * (q + 1) by have := HI.out; omega] at hown
                          go_wp2_with fail
                          go_roundw
                          case rel => exact ⟨q + 1, by omega, by go_num, HA2, hown, hB⟩
                          case measure => simp [intOf]; omega
                  · obtain rfl : q = m := by omega
                    by_cases hbig : 1024 < V
                    · have HV : Hid (R = (0, [], 2)) := Lib.hid (by rw [← HRE.out, HA.out, if_pos rfl, if_pos hbig])
                      have hbI : (1024 : Int) < (V : Int) := by omega
                      clear hbig
                      go_wp2_with fail
                      have kF := kRr.put2' (.int .i64 0) (.slice none 0 0)
                      have hBF := below_put2' (p := w.heap.size) hBr (Nat.le_refl _) (.int .i64 0) (.slice none 0 0)
                      clear cR fR lR
                      generalize ((wr.setCell ⟨w.heap.size, 0, none⟩ (.int .i64 0)).setCell ⟨w.heap.size, 1, none⟩ (.slice none 0 0)) = wF at *
                      obtain ⟨cF, fF, lF⟩ := kF.facts
                      exact bodyPost_ret (v := .tuple #[.agg #[.int .i64 0, .slice none 0 0], .int .i64 2]) (by simp [results, Tryd.results34, go_sem, cF]) rfl ⟨none, 0, 0, by rw [HV.out], by rw [HV.out]; exact own_nil _ _ _ _, hBF⟩
                    · have HV : Hid (R = ((V : Int), parW V ds q, 0)) := Lib.hid (by rw [← HRE.out, HA.out, if_pos rfl, if_neg hbig])
                      have HW : Hid (wordsOf ((V + 63) / 64) (listF (bsF V (dgF ds (4 * q))) V) = parW V ds q) := Lib.hid (by have := par_words V ds (by rw [HM.out]; exact HA.out); rw [HM.out] at this; exact this)
                      have hbI : ¬ (1024 : Int) < (V : Int) := by omega
                      have HMd := Lib.hid (fun w h => rmade_any (some ⟨w1.heap.size, 0, none⟩) V V (bsF V (dgF ds (4 * q))) w h (by omega))
                      rw [HW.out] at HMd
                      obtain ⟨M, hM⟩ : ∃ M, (V + 63) / 64 = M := ⟨_, rfl⟩
                      obtain ⟨W, hW⟩ : ∃ W, parW V ds q = W := ⟨_, rfl⟩
                      rw [hM, hW] at HMd
                      rw [hW] at HV
                      clear hM hW HW
                      have rr := Rd.own hown
                      clear hbig cR fR lR
                      go_wp2_with fail
                      go_at_call 47
                      refine (HMd.out _ rr).mono ?_
                      rintro e w9 ⟨A9, rfl, hown9, hb9⟩
                      have kR9 := kRr.to hb9
                      have hB9 := bnext hBr hb9
                      obtain ⟨cR, fR, lR⟩ := kR9.facts
                      have hsz9 : w.heap.size < wr.heap.size := kRr.lt
                      go_wp2_with fail
                      have kF := kR9.put2' (.int .i64 V) (.slice A9 M M)
                      have hBF := below_put2' (p := w.heap.size) hB9 (Nat.le_refl _) (.int .i64 V) (.slice A9 M M)
                      have hOF := own_less (own_put2' (p := w.heap.size) hown9 hsz9 (.int .i64 V) (.slice A9 M M)) (Nat.le_of_lt hsz9)
                      clear cR fR lR
                      generalize ((w9.setCell ⟨w.heap.size, 0, none⟩ (.int .i64 V)).setCell ⟨w.heap.size, 1, none⟩ (.slice A9 M M)) = wF at *
                      obtain ⟨cF, fF, lF⟩ := kF.facts
                      exact bodyPost_ret (v := .tuple #[.agg #[.int .i64 V, (.slice A9 M M)], .int .i64 0]) (by simp [results, Tryd.results34, go_sem, cF]) rfl ⟨A9, M, M, by rw [HV.out], by rw [HV.out]; exact hOF, hBF⟩
            · have HV := Lib.hid (HBAD.out (by unfold sizC; rw [HVV.out, decide_eq_true (show l.length - j - 1 ≠ (V + 3) / 4 from hlen)]; simp))
              have elen : ((l.length : Int) - (j : Int) - 1 != ((V : Int) + 3) / 4) = true := by rw [bne_iff_ne]; omega
              clear hlead hj0 HBAD HSZ HXC HC58 HC0 HD0 hlen
              rcases hnl with e48 | ⟨e48, h1j⟩
              all_goals
              go_wp2_with fail
              have kF := kR.put2' (.int .i64 0) (.slice none 0 0)
              have hBF := below_put2' (p := w.heap.size) hB1 (Nat.le_refl _) (.int .i64 0) (.slice none 0 0)
              clear cR fR lR
              generalize ((w1.setCell ⟨w.heap.size, 0, none⟩ (.int .i64 0)).setCell ⟨w.heap.size, 1, none⟩ (.slice none 0 0)) = wF at *
              obtain ⟨cF, fF, lF⟩ := kF.facts
              exact bodyPost_ret (v := .tuple #[.agg #[.int .i64 0, .slice none 0 0], .int .i64 3]) (by simp [results, Tryd.results34, go_sem, cF]) rfl ⟨none, 0, 0, by rw [HV.out], by rw [HV.out]; exact own_nil _ _ _ _, hBF⟩
        · have HV := Lib.hid (HBAD.out (by
            unfold sizC
            by_cases h : l.length ≤ j
            · rw [decide_eq_true h]; simp
            · rw [decide_eq_true (show l.getD j 0 ≠ 58 from fun h' => h58 ⟨by omega, HC58.out.1 h'⟩)]; simp))
          have hex : (¬ (j : Int) < (l.length : Int) ∧ (l.length : Int) ≤ (j : Int)) ∨ (j < l.length ∧ (j : Int) < (l.length : Int) ∧ ¬ (48 : Int) ≤ (c : Int) ∧ ((c : Int) != 58) = true) ∨ (j < l.length ∧ (j : Int) < (l.length : Int) ∧ (48 : Int) ≤ (c : Int) ∧ ¬ (c : Int) ≤ 57 ∧ ((c : Int) != 58) = true) ∨ (j < l.length ∧ (j : Int) < (l.length : Int) ∧ (48 : Int) ≤ (c : Int) ∧ (c : Int) ≤ 57 ∧ ¬ (j : Int) < 4 ∧ ((c : Int) != 58) = true) := by
            have := HXC.out
            simp only [bne_iff_ne]
            omega
          have hre : (((c0 : Int) == 48) = true ∧ (1 : Int) < (j : Int)) ∨ (((c0 : Int) == 48) = false) ∨ (((c0 : Int) == 48) = true ∧ ¬ (1 : Int) < (j : Int)) := by
            simp only [beq_iff_eq, beq_eq_false_iff_ne]
            omega
          clear hj0 HBAD HSZ HXC HC58 HC0 HD0 h58
          rcases hex with ⟨hn, hn2⟩ | ⟨hjl, hjI, h1, h4⟩ | ⟨hjl, hjI, h1, h2, h4⟩ | ⟨hjl, hjI, h1, h2, h3, h4⟩
          · clear hxb
            rcases hre with ⟨e48, h1j⟩ | e48 | ⟨e48, h1j⟩
            all_goals
              go_wp2_with fail
              have kF := kR.put2' (.int .i64 0) (.slice none 0 0)
              have hBF := below_put2' (p := w.heap.size) hB1 (Nat.le_refl _) (.int .i64 0) (.slice none 0 0)
              clear cR fR lR
              generalize ((w1.setCell ⟨w.heap.size, 0, none⟩ (.int .i64 0)).setCell ⟨w.heap.size, 1, none⟩ (.slice none 0 0)) = wF at *
              obtain ⟨cF, fF, lF⟩ := kF.facts
              exact bodyPost_ret (v := .tuple #[.agg #[.int .i64 0, .slice none 0 0], .int .i64 3]) (by simp [results, Tryd.results34, go_sem, cF]) rfl ⟨none, 0, 0, by rw [HV.out], by rw [HV.out]; exact own_nil _ _ _ _, hBF⟩
          · replace hxb := hxb hjl
            have hjI2 : ¬ (l.length : Int) ≤ (j : Int) := by omega
            rcases hre with ⟨e48, h1j⟩ | e48 | ⟨e48, h1j⟩
            all_goals try (exfalso; omega)
            all_goals
              go_wp2_with fail
              have kF := kR.put2' (.int .i64 0) (.slice none 0 0)
              have hBF := below_put2' (p := w.heap.size) hB1 (Nat.le_refl _) (.int .i64 0) (.slice none 0 0)
              clear cR fR lR
              generalize ((w1.setCell ⟨w.heap.size, 0, none⟩ (.int .i64 0)).setCell ⟨w.heap.size, 1, none⟩ (.slice none 0 0)) = wF at *
              obtain ⟨cF, fF, lF⟩ := kF.facts
              exact bodyPost_ret (v := .tuple #[.agg #[.int .i64 0, .slice none 0 0], .int .i64 3]) (by simp [results, Tryd.results34, go_sem, cF]) rfl ⟨none, 0, 0, by rw [HV.out], by rw [HV.out]; exact own_nil _ _ _ _, hBF⟩
          · replace hxb := hxb hjl
            have hjI2 : ¬ (l.length : Int) ≤ (j : Int) := by omega
            rcases hre with ⟨e48, h1j⟩ | e48 | ⟨e48, h1j⟩
            all_goals try (exfalso; omega)
            all_goals
              go_wp2_with fail
              have kF := kR.put2' (.int .i64 0) (.slice none 0 0)
              have hBF := below_put2' (p := w.heap.size) hB1 (Nat.le_refl _) (.int .i64 0) (.slice none 0 0)
              clear cR fR lR
              generalize ((w1.setCell ⟨w.heap.size, 0, none⟩ (.int .i64 0)).setCell ⟨w.heap.size, 1, none⟩ (.slice none 0 0)) = wF at *
              obtain ⟨cF, fF, lF⟩ := kF.facts
              exact bodyPost_ret (v := .tuple #[.agg #[.int .i64 0, .slice none 0 0], .int .i64 3]) (by simp [results, Tryd.results34, go_sem, cF]) rfl ⟨none, 0, 0, by rw [HV.out], by rw [HV.out]; exact own_nil _ _ _ _, hBF⟩
          · replace hxb := hxb hjl
            have hjI2 : ¬ (l.length : Int) ≤ (j : Int) := by omega
            rcases hre with ⟨e48, h1j⟩ | e48 | ⟨e48, h1j⟩
            all_goals try (exfalso; omega)
            all_goals
              go_wp2_with fail
              have kF := kR.put2' (.int .i64 0) (.slice none 0 0)
              have hBF := below_put2' (p := w.heap.size) hB1 (Nat.le_refl _) (.int .i64 0) (.slice none 0 0)
              clear cR fR lR
              generalize ((w1.setCell ⟨w.heap.size, 0, none⟩ (.int .i64 0)).setCell ⟨w.heap.size, 1, none⟩ (.slice none 0 0)) = wF at *
              obtain ⟨cF, fF, lF⟩ := kF.facts
              exact bodyPost_ret (v := .tuple #[.agg #[.int .i64 0, .slice none 0 0], .int .i64 3]) (by simp [results, Tryd.results34, go_sem, cF]) rfl ⟨none, 0, 0, by rw [HV.out], by rw [HV.out]; exact own_nil _ _ _ _, hBF⟩
end Go.Proofs.YtihbdndigfnhkaaDoor
