/- The reader of a text of regions: a number. -/
import Derived.Test.YtfblbkhiaglelaaDoorRd1
namespace Go.Proofs.YtfblbkhiaglelaaDoor
open Go Go.Proofs Go.RowKit
set_option linter.unusedSimpArgs false
set_option linter.unusedVariables false
set_option maxRecDepth 100000

theorem gd0 (s : List UInt8) (a : Nat) : (s.drop a).getD 0 0 = s.getD a 0 := by simp [List.getD_eq_getElem?_getD]
theorem gd1 (s : List UInt8) (a : Nat) : (s.drop a).getD 1 0 = s.getD (a + 1) 0 := by simp [List.getD_eq_getElem?_getD]
theorem gd_out (s : List UInt8) (a : Nat) (h : s.length ≤ a) : s.getD a 0 = 0 := by simp [List.getD_eq_getElem?_getD, h]
theorem numL_0 (s : List UInt8) (a : Nat) (h : isD (s.getD a 0) = false) : numL (s.drop a) = (0, 0, false) := by unfold numL; rw [gd0, h]; rfl
theorem numL_1 (s : List UInt8) (a : Nat) (h : isD (s.getD a 0) = true) (h' : (s.getD a 0).toNat ≤ 48 ∨ isD (s.getD (a + 1) 0) = false) : numL (s.drop a) = ((s.getD a 0).toNat - 48, 1, true) := by
  unfold numL
  rw [gd0, gd1, h, if_pos rfl, if_neg]
  rintro ⟨h1, h2⟩
  rcases h' with h' | h'
  · omega
  · rw [h2] at h'; cases h'
theorem numL_2 (s : List UInt8) (a : Nat) (h : isD (s.getD a 0) = true) (h1 : 48 < (s.getD a 0).toNat) (h' : isD (s.getD (a + 1) 0) = true) : numL (s.drop a) = (10 * ((s.getD a 0).toNat - 48) + ((s.getD (a + 1) 0).toNat - 48), 2, true) := by
  unfold numL
  rw [gd0, gd1, h, if_pos rfl, if_pos ⟨h1, h'⟩]
theorem isD_t {c : UInt8} (h1 : 48 ≤ c.toNat) (h2 : c.toNat ≤ 57) : isD c = true := by unfold isD; simp; omega
theorem isD_f {c : UInt8} (h : c.toNat < 48 ∨ 57 < c.toNat) : isD c = false := by unfold isD; simp; omega
theorem isD_b {c : UInt8} (h : isD c = true) : 48 ≤ c.toNat ∧ c.toNat ≤ 57 := by unfold isD at h; simpa using h
theorem byte_at (s : List UInt8) (k : Nat) (h : k < s.length) : ((((⟨s.toArray⟩ : ByteArray)[k]'(by show k < s.toArray.size; simpa using h)).toNat : Nat) : Int) = (((s.getD k 0).toNat : Nat) : Int) := by
  show ((s.toArray[k]'(by simpa using h)).toNat : Int) = _
  simp [List.getD_eq_getElem?_getD, h]
def nmz (w : World) (b : Nat) (a : Int) : Nat := match w.cell? ⟨b, 1, none⟩ with | some (.int _ z) => (z - a).toNat | _ => 0
theorem nmz_of {w : World} {b : Nat} {x y : Value} {t : TypeId} {z : Int} (a : Int) (K : Bk w b #[x, .int .i64 z, y] t) : nmz w b a = (z - a).toNat := by
  unfold nmz
  rw [K.cell 1]
  rfl
theorem meas_of {w w' : World} {b : Nat} {x y x' y' : Value} {t : TypeId} {a z z' : Int} (K : Bk w b #[x, .int .i64 z, y] t) (K' : Bk w' b #[x', .int .i64 z', y'] t) (h : 3 - (z' - a).toNat < 3 - (z - a).toNat) : 3 - nmz w' b a < 3 - nmz w b a := by
  rw [nmz_of a K, nmz_of a K']; exact h
theorem bkp1 {w : World} {b : Nat} {x y z u : Value} {t : TypeId} (K : Bk w b #[x, y, z] t) : Bk (w.setCell ⟨b, 1, none⟩ u) b #[x, u, z] t := K.put 1 u
theorem bkp2 {w : World} {b : Nat} {x y z u : Value} {t : TypeId} (K : Bk w b #[x, y, z] t) : Bk (w.setCell ⟨b, 2, none⟩ u) b #[x, y, u] t := K.put 2 u
theorem bkd {w : World} {b : Nat} {cs : Array Value} {t : TypeId} {n : Nat} (K : Bk w b cs t) : Bk (w.drewN n) b cs t := K
theorem bkf {w : World} {b c i : Nat} {cs : Array Value} {t : TypeId} {u : Value} (K : Bk w c cs t) (h : c ≠ b) : Bk (w.setCell ⟨b, i, none⟩ u) c cs t := K.far (p := ⟨b, i, none⟩) h u
theorem tcd {b : Nat} {w w' : World} {n : Nat} (T : Tch b w w') : Tch b w (w'.drewN n) := T.drewN n
theorem tcp {b i : Nat} {w w' : World} {u : Value} (T : Tch b w w') : Tch b w (w'.setCell ⟨b, i, none⟩ u) := T.put i u
def NR (w : World) (b p q : Nat) (s : List UInt8) (a : Nat) (bad : Bool) (n : Value) (wr : World) : Prop :=
  ∃ k N : Nat, n = .int .i64 N ∧ a + k ≤ s.length ∧ Bk wr b #[.string ⟨s.toArray⟩, .int .i64 ((a : Int) + k), .bool bad] 71 ∧ Bk wr p #[.pointer (some ⟨b, 0, none⟩)] 80 ∧ Bk wr q #[.int .i64 a] 3 ∧ Tch b w wr ∧
    ((k = 0 ∧ N = 0) ∨ (k = 1 ∧ isD (s.getD a 0) = true ∧ N = (s.getD a 0).toNat - 48) ∨ (k = 2 ∧ numL (s.drop a) = (N, 2, true)))
set_option maxHeartbeats 8000000 in
theorem rnum_any (s : List UInt8) (b a : Nat) (bad : Bool) (w : World) (K : Bk w b #[.string ⟨s.toArray⟩, .int .i64 a, .bool bad] 71) (ha : a ≤ s.length) (hs : s.length ≤ 100000) :
    Calls Tryd.prog 49 #[.pointer (some ⟨b, 0, none⟩)] w fun e w' => e = .returned (.int .i64 (numL (s.drop a)).1) ∧ Bk w' b #[.string ⟨s.toArray⟩, .int .i64 ((a : Int) + (numL (s.drop a)).2.1), .bool (bad || !(numL (s.drop a)).2.2)] 71 ∧ Tch b w w' := by
  have hmf : ∀ (fn : Fn) (first cap : Array Value) (w : World), (Instr.makeFunc fn first cap).run Tryd.prog w = .ok (.func fn first cap) w := fun _ _ _ _ => rfl
  obtain ⟨cb, fb, lb⟩ := K.facts
  have K0 := (K.alloc (.cells #[.pointer (some ⟨b, 0, none⟩)] 80)).alloc (.cells #[.int .i64 a] 3)
  have P0 := (Bk.new w #[.pointer (some ⟨b, 0, none⟩)] 80).alloc (.cells #[.int .i64 a] 3)
  have Q0 := Bk.new (w.alloc (.cells #[.pointer (some ⟨b, 0, none⟩)] 80)) #[.int .i64 a] 3
  rw [World.size_alloc] at Q0
  have T0 : Tch b w ((w.alloc (.cells #[.pointer (some ⟨b, 0, none⟩)] 80)).alloc (.cells #[.int .i64 a] 3)) := ((Tch.refl b w).alloc _).alloc _
  have hbp : b ≠ w.heap.size := by omega
  have hbq : b ≠ w.heap.size + 1 := by omega
  go_enter_defers Tryd.func49, Tryd.ntmps49
  go_wp2_with fail
  generalize (w.alloc (.cells #[.pointer (some ⟨b, 0, none⟩)] 80)).alloc (.cells #[.int .i64 a] 3) = w0 at *
  obtain ⟨q, hq⟩ : ∃ q, w.heap.size + 1 = q := ⟨_, rfl⟩
  rw [hq] at Q0 hbq ⊢
  clear hq
  obtain ⟨p, hp⟩ : ∃ p, w.heap.size = p := ⟨_, rfl⟩
  rw [hp] at P0 hbp ⊢
  clear hp cb fb lb K
  have ei : ∀ x y : Int, x = y → x = y := fun _ _ h => h
  go_loopw [2] (NR w b p q s a bad) (fun _ wr => 3 - nmz wr b a)
  case atStart => exact ⟨0, 0, rfl, by omega, by simpa using K0, P0, Q0, T0, .inl ⟨rfl, rfl⟩⟩
  case round =>
    clear K0 P0 Q0 T0
    obtain ⟨k, N, rfl, hk, K, P, Q, T, hc⟩ := hrel
    have hm := K.cell 1
    simp only [List.getElem?_toArray, List.getElem?_cons_zero, List.getElem?_cons_succ] at hm
    have HM := Lib.hid hm
    clear hm
    have cb0 := K.cell 0
    have cb1 := K.cell 1
    have cb2 := K.cell 2
    have fb1 := K.frozen 1
    have fb2 := K.frozen 2
    have cp := P.cell 0
    have cq := Q.cell 0
    simp only [List.getElem?_toArray, List.getElem?_cons_zero, List.getElem?_cons_succ] at cb0 cb1 cb2 cp cq
    rcases hc with ⟨rfl, rfl⟩ | ⟨rfl, hd0, hN⟩ | ⟨rfl, hnum⟩
    · simp only [Int.natCast_zero, Int.add_zero, Int.ofNat_zero] at K cb1 HM
      by_cases hlt : a < s.length
      · have hI : (a : Int) < (s.length : Int) := by omega
        have hx := byte_at s a hlt
        have hw : IntKind.i64.wrap ((a : Int) - (a : Int)) = 0 := by rw [IntKind.wrap_i64]; omega
        have H0 := Lib.hid (numL_0 s a)
        have HT := Lib.hid (isD_t (c := s.getD a 0))
        have HF := Lib.hid (isD_f (c := s.getD a 0))
        have hc256 : (s.getD a 0).toNat < 256 := UInt8.toNat_lt _
        obtain ⟨c, hcc⟩ : ∃ c, (s.getD a 0).toNat = c := ⟨_, rfl⟩
        rw [hcc] at hx HT HF hc256
        have HC := Lib.hid hcc
        clear hcc
        by_cases h1 : c < 48
        · have h1I : (c : Int) < 48 := by omega
          have HU := Lib.hid (H0.out (HF.out (.inl h1)))
          go_wp2_with fail
          go_quiet (fail)
          go_wp2_with fail
          go_quiet (fail)
          go_wp2_with fail
          go_quiet (fail)
          go_wp2_with fail
          refine leaves_cons (f := 58) (args := #[.pointer (some ⟨p, 0, none⟩), .pointer (some ⟨q, 0, none⟩)]) (by simp) (by simp [go_sem]) ?_
          refine (num1_t p q b a bad .returning _ (by exact cp) (by exact cq) (by exact cb1) (by exact cb2) (by exact fb2)).mono ?_
          rintro e u' w'' ⟨rfl, rfl, nq', rfl⟩
          refine ⟨_, results_tmp rfl _ _ _, ?_⟩
          rw [HU.out]
          refine ⟨rfl, ?_, (by repeat (with_reducible first | exact T | refine tcp ?_ | refine tcd ?_))⟩
          rw [show ((a : Int) + ((0 : Nat) : Int)) = (a : Int) by omega, Bool.not_false, Bool.or_true]
          repeat (with_reducible first | exact K | apply bkp2 | refine bkd ?_)
        · by_cases h2 : 57 < c
          · have h1I : ¬ (c : Int) < 48 := by omega
            have h2I : (57 : Int) < (c : Int) := by omega
            have e1 : decide ((c : Int) < 48) = false := by simp; omega
            have e2 : decide ((57 : Int) < (c : Int)) = true := by simp; omega
            have HU := Lib.hid (H0.out (HF.out (.inr h2)))
            go_wp2_with fail
            go_quiet (fail)
            go_wp2_with fail
            go_quiet (fail)
            go_wp2_with fail
            go_quiet (fail)
            go_wp2_with fail
            refine leaves_cons (f := 58) (args := #[.pointer (some ⟨p, 0, none⟩), .pointer (some ⟨q, 0, none⟩)]) (by simp) (by simp [go_sem]) ?_
            refine (num1_t p q b a bad .returning _ (by exact cp) (by exact cq) (by exact cb1) (by exact cb2) (by exact fb2)).mono ?_
            rintro e u' w'' ⟨rfl, rfl, nq', rfl⟩
            refine ⟨_, results_tmp rfl _ _ _, ?_⟩
            rw [HU.out]
            refine ⟨rfl, ?_, (by repeat (with_reducible first | exact T | refine tcp ?_ | refine tcd ?_))⟩
            rw [show ((a : Int) + ((0 : Nat) : Int)) = (a : Int) by omega, Bool.not_false, Bool.or_true]
            repeat (with_reducible first | exact K | apply bkp2 | refine bkd ?_)
          · have h1I : ¬ (c : Int) < 48 := by omega
            have h2I : ¬ (57 : Int) < (c : Int) := by omega
            have e1 : decide ((c : Int) < 48) = false := by simp; omega
            have e2 : decide ((57 : Int) < (c : Int)) = false := by simp; omega
            have HU := Lib.hid (HT.out (by omega) (by omega))
            go_wp2_with fail
            go_quiet (fail)
            go_wp2_with fail
            go_quiet (fail)
            go_wp2_with fail
            go_quiet (fail)
            go_wp2_with fail
            go_roundw
            case rel => exact ⟨1, c - 48, by go_num, by omega, (show Bk _ b #[.string ⟨s.toArray⟩, .int .i64 ((a : Int) + 1), .bool bad] 71 by repeat (with_reducible first | exact K | apply bkp1 | refine bkd ?_)), by repeat (with_reducible first | exact P | refine bkf ?_ (Ne.symm hbp) | refine bkd ?_), by repeat (with_reducible first | exact Q | refine bkf ?_ (Ne.symm hbq) | refine bkd ?_), by repeat (with_reducible first | exact T | refine tcp ?_ | refine tcd ?_), .inr (.inl ⟨rfl, HU.out, by rw [HC.out]⟩)⟩
            case measure => exact meas_of (z' := (a : Int) + 1) K (by repeat (with_reducible first | exact K | apply bkp1 | refine bkd ?_)) (by omega)
      · have hI : ¬ (a : Int) < (s.length : Int) := by omega
        have HU := Lib.hid (numL_0 s a (by rw [gd_out s a (by omega)]; rfl))
        go_wp2_with fail
        go_quiet (fail)
        go_wp2_with fail
        refine leaves_cons (f := 58) (args := #[.pointer (some ⟨p, 0, none⟩), .pointer (some ⟨q, 0, none⟩)]) (by simp) (by simp [go_sem]) ?_
        refine (num1_t p q b a bad .returning _ (by exact cp) (by exact cq) (by exact cb1) (by exact cb2) (by exact fb2)).mono ?_
        rintro e u' w'' ⟨rfl, rfl, nq', rfl⟩
        refine ⟨_, results_tmp rfl _ _ _, ?_⟩
        rw [HU.out]
        refine ⟨rfl, ?_, (by repeat (with_reducible first | exact T | refine tcp ?_ | refine tcd ?_))⟩
        rw [show ((a : Int) + ((0 : Nat) : Int)) = (a : Int) by omega, Bool.not_false, Bool.or_true]
        repeat (with_reducible first | exact K | apply bkp2 | refine bkd ?_)
    · rw [show ((1 : Nat) : Int) = 1 from rfl] at K cb1 HM
      obtain ⟨hd1, hd2⟩ := isD_b hd0
      have H1 := Lib.hid (numL_1 s a hd0)
      have H2 := Lib.hid (numL_2 s a hd0)
      rw [← hN] at H1 H2
      have hN9 : N ≤ 9 := by omega
      have HN : Hid ((s.getD a 0).toNat = N + 48) := Lib.hid (by omega)
      clear hN hd1 hd2 hd0
      have hw : IntKind.i64.wrap ((a : Int) + 1 - (a : Int)) = 1 := by rw [IntKind.wrap_i64]; omega
      by_cases hlt : a + 1 < s.length
      · have hI : (a : Int) + 1 < (s.length : Int) := by omega
        have eL : decide ((a : Int) + 1 < (s.length : Int)) = true := by simp; omega
        have hx := byte_at s (a + 1) hlt
        have HT := Lib.hid (isD_t (c := s.getD (a + 1) 0))
        have HF := Lib.hid (isD_f (c := s.getD (a + 1) 0))
        have hc256 : (s.getD (a + 1) 0).toNat < 256 := UInt8.toNat_lt _
        obtain ⟨c, hcc⟩ : ∃ c, (s.getD (a + 1) 0).toNat = c := ⟨_, rfl⟩
        rw [hcc] at hx HT HF hc256 H2
        have h3 : ((a : Int) + 1).toNat = a + 1 := by omega
        have eA : decide ((a : Int) < (a : Int) + 1) = true := by simp; omega
        clear hcc
        by_cases h1 : c < 48
        · have h1I : (c : Int) < 48 := by omega
          have HU := Lib.hid (H1.out (.inr (HF.out (.inl h1))))
          go_wp2_with fail
          go_quiet (fail)
          go_wp2_with fail
          go_quiet (fail)
          go_wp2_with fail
          go_quiet (fail)
          go_wp2_with fail
          refine leaves_cons (f := 58) (args := #[.pointer (some ⟨p, 0, none⟩), .pointer (some ⟨q, 0, none⟩)]) (by simp) (by simp [go_sem]) ?_
          refine (num1_f p q b ((a : Int) + 1) a .returning _ (by exact cp) (by exact cq) (by exact cb1) (by omega)).mono ?_
          rintro e u' w'' ⟨rfl, rfl, nq', rfl⟩
          refine ⟨_, results_tmp rfl _ _ _, ?_⟩
          rw [HU.out]
          refine ⟨rfl, ?_, (by repeat (with_reducible first | exact T | refine tcp ?_ | refine tcd ?_))⟩
          rw [Bool.not_true, Bool.or_false]
          show Bk _ b #[.string ⟨s.toArray⟩, .int .i64 ((a : Int) + 1), .bool bad] 71
          repeat (with_reducible first | exact K | refine bkd ?_)
        · by_cases h2 : 57 < c
          · have h1I : ¬ (c : Int) < 48 := by omega
            have h2I : (57 : Int) < (c : Int) := by omega
            have e1 : decide ((c : Int) < 48) = false := by simp; omega
            have e2 : decide ((57 : Int) < (c : Int)) = true := by simp; omega
            have HU := Lib.hid (H1.out (.inr (HF.out (.inr h2))))
            go_wp2_with fail
            go_quiet (fail)
            go_wp2_with fail
            go_quiet (fail)
            go_wp2_with fail
            go_quiet (fail)
            go_wp2_with fail
            refine leaves_cons (f := 58) (args := #[.pointer (some ⟨p, 0, none⟩), .pointer (some ⟨q, 0, none⟩)]) (by simp) (by simp [go_sem]) ?_
            refine (num1_f p q b ((a : Int) + 1) a .returning _ (by exact cp) (by exact cq) (by exact cb1) (by omega)).mono ?_
            rintro e u' w'' ⟨rfl, rfl, nq', rfl⟩
            refine ⟨_, results_tmp rfl _ _ _, ?_⟩
            rw [HU.out]
            refine ⟨rfl, ?_, (by repeat (with_reducible first | exact T | refine tcp ?_ | refine tcd ?_))⟩
            rw [Bool.not_true, Bool.or_false]
            show Bk _ b #[.string ⟨s.toArray⟩, .int .i64 ((a : Int) + 1), .bool bad] 71
            repeat (with_reducible first | exact K | refine bkd ?_)
          · have h1I : ¬ (c : Int) < 48 := by omega
            have h2I : ¬ (57 : Int) < (c : Int) := by omega
            have e1 : decide ((c : Int) < 48) = false := by simp; omega
            have e2 : decide ((57 : Int) < (c : Int)) = false := by simp; omega
            rcases Nat.eq_zero_or_pos N with rfl | hN0
            · have HU := Lib.hid (H1.out (.inl (by rw [HN.out]; omega)))
              go_wp2_with fail
              go_quiet (fail)
              go_wp2_with fail
              go_quiet (fail)
              go_wp2_with fail
              go_quiet (fail)
              go_wp2_with fail
              refine leaves_cons (f := 58) (args := #[.pointer (some ⟨p, 0, none⟩), .pointer (some ⟨q, 0, none⟩)]) (by simp) (by simp [go_sem]) ?_
              refine (num1_f p q b ((a : Int) + 1) a .returning _ (by exact cp) (by exact cq) (by exact cb1) (by omega)).mono ?_
              rintro e u' w'' ⟨rfl, rfl, nq', rfl⟩
              refine ⟨_, results_tmp rfl _ _ _, ?_⟩
              rw [HU.out]
              refine ⟨rfl, ?_, (by repeat (with_reducible first | exact T | refine tcp ?_ | refine tcd ?_))⟩
              rw [Bool.not_true, Bool.or_false]
              show Bk _ b #[.string ⟨s.toArray⟩, .int .i64 ((a : Int) + 1), .bool bad] 71
              repeat (with_reducible first | exact K | refine bkd ?_)
            · have hNI : ((N : Int) == 0) = false := by simp; omega
              have hN2 : ¬ (N : Int) = 0 := by omega
              have HU := Lib.hid (H2.out (by rw [HN.out]; omega) (HT.out (by omega) (by omega)))
              clear H1 H2 HT HF
              go_wp2_with fail
              go_quiet (fail)
              go_wp2_with fail
              go_quiet (fail)
              go_wp2_with fail
              go_quiet (fail)
              go_wp2_with fail
              rw [show (a : Int) + 1 + 1 = (a : Int) + 2 by omega]
              go_roundw
              case rel => exact ⟨2, 10 * N + (c - 48), by go_num, by omega, (show Bk _ b #[.string ⟨s.toArray⟩, .int .i64 ((a : Int) + 2), .bool bad] 71 by repeat (with_reducible first | exact K | apply bkp1 | refine bkd ?_)), by repeat (with_reducible first | exact P | refine bkf ?_ (Ne.symm hbp) | refine bkd ?_), by repeat (with_reducible first | exact Q | refine bkf ?_ (Ne.symm hbq) | refine bkd ?_), by repeat (with_reducible first | exact T | refine tcp ?_ | refine tcd ?_), .inr (.inr ⟨rfl, HU.out⟩)⟩
              case measure => exact meas_of (z' := (a : Int) + 2) K (by repeat (with_reducible first | exact K | apply bkp1 | refine bkd ?_)) (by omega)
      · have hI : ¬ (a : Int) + 1 < (s.length : Int) := by omega
        have eL : decide ((a : Int) + 1 < (s.length : Int)) = false := by simp; omega
        have HU := Lib.hid (H1.out (.inr (by rw [gd_out s (a + 1) (by omega)]; rfl)))
        go_wp2_with fail
        go_quiet (fail)
        go_wp2_with fail
        refine leaves_cons (f := 58) (args := #[.pointer (some ⟨p, 0, none⟩), .pointer (some ⟨q, 0, none⟩)]) (by simp) (by simp [go_sem]) ?_
        refine (num1_f p q b ((a : Int) + 1) a .returning _ (by exact cp) (by exact cq) (by exact cb1) (by omega)).mono ?_
        rintro e u' w'' ⟨rfl, rfl, nq', rfl⟩
        refine ⟨_, results_tmp rfl _ _ _, ?_⟩
        rw [HU.out]
        refine ⟨rfl, ?_, (by repeat (with_reducible first | exact T | refine tcp ?_ | refine tcd ?_))⟩
        rw [Bool.not_true, Bool.or_false]
        show Bk _ b #[.string ⟨s.toArray⟩, .int .i64 ((a : Int) + 1), .bool bad] 71
        repeat (with_reducible first | exact K | refine bkd ?_)
    · rw [show ((2 : Nat) : Int) = 2 from rfl] at K cb1 HM
      have HU := Lib.hid hnum
      clear hnum
      have hw : IntKind.i64.wrap ((a : Int) + 2 - (a : Int)) = 2 := by rw [IntKind.wrap_i64]; omega
      by_cases hlt : a + 2 < s.length
      · have hI : (a : Int) + 2 < (s.length : Int) := by omega
        have eL : decide ((a : Int) + 2 < (s.length : Int)) = true := by simp; omega
        go_wp2_with fail
        go_quiet (fail)
        go_wp2_with fail
        refine leaves_cons (f := 58) (args := #[.pointer (some ⟨p, 0, none⟩), .pointer (some ⟨q, 0, none⟩)]) (by simp) (by simp [go_sem]) ?_
        refine (num1_f p q b ((a : Int) + 2) a .returning _ (by exact cp) (by exact cq) (by exact cb1) (by omega)).mono ?_
        rintro e u' w'' ⟨rfl, rfl, nq', rfl⟩
        refine ⟨_, results_tmp rfl _ _ _, ?_⟩
        rw [HU.out]
        refine ⟨rfl, ?_, (by repeat (with_reducible first | exact T | refine tcp ?_ | refine tcd ?_))⟩
        rw [Bool.not_true, Bool.or_false]
        show Bk _ b #[.string ⟨s.toArray⟩, .int .i64 ((a : Int) + 2), .bool bad] 71
        repeat (with_reducible first | exact K | refine bkd ?_)
      · have hI : ¬ (a : Int) + 2 < (s.length : Int) := by omega
        have eL : decide ((a : Int) + 2 < (s.length : Int)) = false := by simp; omega
        go_wp2_with fail
        go_quiet (fail)
        go_wp2_with fail
        refine leaves_cons (f := 58) (args := #[.pointer (some ⟨p, 0, none⟩), .pointer (some ⟨q, 0, none⟩)]) (by simp) (by simp [go_sem]) ?_
        refine (num1_f p q b ((a : Int) + 2) a .returning _ (by exact cp) (by exact cq) (by exact cb1) (by omega)).mono ?_
        rintro e u' w'' ⟨rfl, rfl, nq', rfl⟩
        refine ⟨_, results_tmp rfl _ _ _, ?_⟩
        rw [HU.out]
        refine ⟨rfl, ?_, (by repeat (with_reducible first | exact T | refine tcp ?_ | refine tcd ?_))⟩
        rw [Bool.not_true, Bool.or_false]
        show Bk _ b #[.string ⟨s.toArray⟩, .int .i64 ((a : Int) + 2), .bool bad] 71
        repeat (with_reducible first | exact K | refine bkd ?_)
end Go.Proofs.YtfblbkhiaglelaaDoor
