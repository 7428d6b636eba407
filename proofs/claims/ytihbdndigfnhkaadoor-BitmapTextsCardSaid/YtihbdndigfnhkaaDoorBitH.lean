/- Texts of sets, by the reference: a digit's value, a number in decimal digits, the text. -/
import Derived.Test.YtihbdndigfnhkaaDoorBitY
import Derived.Laws.IdiomStrings
namespace Go.Proofs.YtihbdndigfnhkaaDoor
open Go Go.Proofs Go.RowKit
set_option linter.unusedSimpArgs false
set_option linter.unusedVariables false
set_option maxRecDepth 100000

theorem hex_none_all : ((List.range 256).all fun c => decide (hexV (UInt8.ofNat c) = -1) || (List.range 16).any fun j => decide (hexC j = UInt8.ofNat c)) = true := by decide +kernel
theorem hexV_none (c : UInt8) (h : ∀ j, j < 16 → hexC j ≠ c) : hexV c = -1 := by
  have := List.all_eq_true.1 hex_none_all c.toNat (List.mem_range.2 c.toNat_lt)
  simp only [Bool.or_eq_true, decide_eq_true_eq, UInt8.ofNat_toNat, List.any_eq_true] at this
  rcases this with h1 | ⟨j, hj, h1⟩
  · exact h1
  · exact absurd h1 (h j (List.mem_range.1 hj))
set_option maxHeartbeats 1000000 in
theorem rvalue_any (c : UInt8) (w : World) :
    Calls Tryd.prog 62 #[.int .u8 (c.toNat : Int)] w fun e w' => e = .returned (.int .i64 (hexV c)) ∧ w = w' := by
  obtain ⟨C, hC⟩ : ∃ C, c.toNat = C := ⟨_, rfl⟩
  rw [hC]
  have HC := Lib.hid hC
  clear hC
  go_enter Tryd.func62, Tryd.ntmps62
  go_wp2_with fail
  go_loop [3] (fun i => ∃ k : Nat, k ≤ 16 ∧ i = .int .i64 k ∧ Hid (∀ j, j < k → hexC j ≠ c)) (fun i => 16 - (intOf i).toNat)
  case atStart => exact ⟨0, by omega, rfl, Lib.hid (fun j h => absurd h (Nat.not_lt_zero _))⟩
  case round =>
    obtain ⟨k, hk, rfl, HN⟩ := hrel
    by_cases hlt : k < 16
    · have hkI : (k : Int) < 16 := by omega
      have hX := hexC_at k hlt
      have HV := Lib.hid (hexV_C k hlt)
      have HS : Hid (hexC k ≠ c → ∀ j, j < k + 1 → hexC j ≠ c) := Lib.hid (fun h j hj => by
        by_cases e : j = k
        · subst e; exact h
        · exact HN.out j (by omega))
      have HE : Hid (hexC k = c → hexV c = (k : Int)) := Lib.hid (fun h => by rw [← h]; exact HV.out)
      have HI : Hid ((hexC k).toNat = C → hexC k = c) := Lib.hid (fun h => UInt8.toNat_inj.1 (by rw [h, HC.out]))
      have HJ : Hid (hexC k = c → (hexC k).toNat = C) := Lib.hid (fun h => by rw [h, HC.out])
      generalize hexC k = u at *
      obtain ⟨U, hU⟩ : ∃ U, u.toNat = U := ⟨_, rfl⟩
      have HU := Lib.hid hU
      have hX2 : (((⟨#[48, 49, 50, 51, 52, 53, 54, 55, 56, 57, 97, 98, 99, 100, 101, 102]⟩ : ByteArray)[k]'(by show k < 16; exact hlt)).toNat : Int) = (U : Int) := by rw [hX, hU]
      clear hX hU
      by_cases he : U = C
      · have HR := Lib.hid (HE.out (HI.out (HU.out.trans he)))
        subst he
        go_wp2_with fail
        go_ret
        exact ⟨ret_int HR.out.symm, rfl⟩
      · have HR := Lib.hid (HS.out (fun h => he (HU.out.symm.trans (HJ.out h))))
        have e1 : ((U : Int) == (C : Int)) = false := by simp; omega
        have e2 : (U == C) = false := by simpa using he
        clear he
        go_wp2_with fail
        go_round
        case rel => exact ⟨k + 1, by omega, by go_num, HR⟩
        case measure => simp [intOf]; omega
    · obtain rfl : k = 16 := by omega
      have HR := Lib.hid (hexV_none c HN.out)
      go_wp2_with fail
      go_ret
      exact ⟨ret_int HR.out.symm, rfl⟩
theorem hexC_dig (d : Nat) (h : d < 10) : hexC d = UInt8.ofNat (48 + d) := by
  have h2 : d = 0 ∨ d = 1 ∨ d = 2 ∨ d = 3 ∨ d = 4 ∨ d = 5 ∨ d = 6 ∨ d = 7 ∨ d = 8 ∨ d = 9 := by omega
  rcases h2 with rfl | rfl | rfl | rfl | rfl | rfl | rfl | rfl | rfl | rfl <;> rfl
/-- What is left of a number, and the digits that are written. -/
def DcS (N m : Nat) (t : List UInt8) : Prop := (m = N ∧ t = []) ∨ (t ≠ [] ∧ m ≠ 0 ∧ Lib.decDigits m ++ t = Lib.decDigits N) ∨ (t ≠ [] ∧ m = 0 ∧ t = Lib.decDigits N)
theorem DcS_next {N m : Nat} {t : List UInt8} (h : DcS N m t) (h2 : m ≠ 0 ∨ t = []) : DcS N (m / 10) (hexC (m % 10) :: t) := by
  have hd := hexC_dig (m % 10) (by omega)
  have key : Lib.decDigits m ++ t = Lib.decDigits N := by
    rcases h with ⟨rfl, rfl⟩ | ⟨_, _, h⟩ | ⟨h3, h4, _⟩
    · simp
    · exact h
    · rcases h2 with h2 | h2
      · exact absurd h4 h2
      · exact absurd h2 h3
  by_cases h9 : m < 10
  · refine .inr (.inr ⟨by simp, by omega, ?_⟩)
    rw [← key, dig_small m h9, hd, Nat.mod_eq_of_lt h9]; rfl
  · refine .inr (.inl ⟨by simp, by omega, ?_⟩)
    rw [← key, dig_big m h9, hd]; simp
theorem DcS_len {N m : Nat} {t : List UInt8} (h : DcS N m t) (hN : N ≤ 1024) : t.length ≤ 4 := by
  have := decDigits_len N hN
  rcases h with ⟨_, rfl⟩ | ⟨_, _, h⟩ | ⟨_, _, h⟩
  · simp
  · have := congrArg List.length h
    simp at this; omega
  · rw [h]; exact this
theorem valH {s t : ByteArray} (h : s = t) : Value.string s = Value.string t := by rw [h]
def dcM (x v : Value) : Nat := (intOf x).toNat + match v with | .string s => if s.size = 0 then 1 else 0 | _ => 0
theorem dcM_val (m : Nat) (t : List UInt8) : dcM (.int .i64 (m : Int)) (.string ⟨t.toArray⟩) = m + if t.length = 0 then 1 else 0 := by
  unfold dcM
  simp [intOf, ByteArray.size]
theorem dcM_lt (m q : Nat) (t t0 : List UInt8) {v : Value} (hv : v = .string ⟨t.toArray⟩) (h : (q + if t.length = 0 then 1 else 0) < m + if t0.length = 0 then 1 else 0) : dcM (.int .i64 (q : Int)) v < dcM (.int .i64 (m : Int)) (.string ⟨t0.toArray⟩) := by
  rw [hv, dcM_val, dcM_val]
  exact h
theorem cell_one_newH (w : World) (x : Value) (t : TypeId) : Bk (w.alloc (.cells #[x] t)) w.heap.size #[x] t := Bk.new w #[x] t
set_option maxHeartbeats 1000000 in
theorem rdecimal_any (N : Nat) (w : World) (hN : N ≤ 1024) :
    Calls Tryd.prog 58 #[.int .i64 N] w fun e w' => e = .returned (.string ⟨(Lib.decDigits N).toArray⟩) ∧ Below w.heap.size w w' := by
  go_enter Tryd.func58, Tryd.ntmps58
  go_wp2_with fail
  go_loopw [0, 3] (fun x v wr => ∃ (m : Nat) (t : List UInt8), x = .int .i64 m ∧ v = .string ⟨t.toArray⟩ ∧ m ≤ 1024 ∧ Hid (DcS N m t) ∧ Below w.heap.size w wr) (fun x v _ => dcM x v)
  case atStart => exact ⟨N, [], rfl, rfl, hN, Lib.hid (.inl ⟨rfl, rfl⟩), Below.refl _ _⟩
  case round =>
    obtain ⟨m, t, rfl, rfl, hm, HD, hB⟩ := hrel
    have hT := DcS_len HD.out hN
    by_cases h0 : m = 0
    · rcases t with _ | ⟨c, t⟩
      · have HN := Lib.hid (DcS_next HD.out (.inr rfl))
        subst h0
        have hX := hexC_at 0 (by omega)
        generalize hexC 0 = u at *
        have hcv := conv_all (wr.alloc (.cells #[.int .u8 (u.toNat : Int)] 5)) wr.heap.size 1 1 [u] rfl (fun j hj => by
          obtain rfl : j = 0 := by simp at hj; omega
          exact (Bk.new wr #[.int .u8 (u.toNat : Int)] 5).cell 0)
        go_wp2_with fail
        go_roundw
        case rel => exact ⟨0, [u], by go_num, valH (ByteArray.ext (by simp)), by omega, HN, by (repeat' (first | exact Below.refl _ _ | assumption | refine balloc ?_ _ | refine below_drawn ?_ _ | refine below_drew ?_ | refine bnext ?_ hb24 | refine bnext ?_ hb23 | refine bnext ?_ hb22 | refine bnext ?_ hb21 | refine bnext ?_ hb20 | refine bnext ?_ hb19 | refine bnext ?_ hb18 | refine bnext ?_ hb17 | refine bnext ?_ hb16 | refine bnext ?_ hb15 | refine bnext ?_ hb14 | refine bnext ?_ hb13 | refine bnext ?_ hb12 | refine bnext ?_ hb11 | refine bnext ?_ hb10 | refine bnext ?_ hb9 | refine bnext ?_ hb8 | refine bnext ?_ hb7 | refine bnext ?_ hb6 | refine bnext ?_ hb5 | refine bnext ?_ hb4 | refine bnext ?_ hb3 | refine bnext ?_ hb2 | refine bnext ?_ hb1))⟩
        case measure => exact dcM_lt 0 0 [u] [] (valH (ByteArray.ext (by simp))) (by simp)
      · have hR : c :: t = Lib.decDigits N := by
          rcases HD.out with ⟨_, h⟩ | ⟨_, h, _⟩ | ⟨_, _, h⟩
          · cases h
          · exact absurd h0 h
          · exact h
        have HR := Lib.hid hR
        subst h0
        clear hR
        go_wp2_with fail
        go_ret
        exact ⟨by rw [← HR.out]; rfl, hB⟩
    · have HN := Lib.hid (DcS_next HD.out (.inl h0))
      obtain ⟨r, hr⟩ : ∃ r, m % 10 = r := ⟨_, rfl⟩
      obtain ⟨q, hq⟩ : ∃ q, m / 10 = q := ⟨_, rfl⟩
      rw [hr, hq] at HN
      have hr10 : r < 16 := by omega
      have hqm : q < m := by omega
      have hI1 : (m : Int) % 10 = (r : Int) := by omega
      have hI2 : (m : Int) / 10 = (q : Int) := by omega
      have hI3 : (0 : Int) < (m : Int) := by omega
      have hX := hexC_at r hr10
      generalize hexC r = u at *
      have hcv := conv_all (wr.alloc (.cells #[.int .u8 (u.toNat : Int)] 5)) wr.heap.size 1 1 [u] rfl (fun j hj => by
        obtain rfl : j = 0 := by simp at hj; omega
        exact (Bk.new wr #[.int .u8 (u.toNat : Int)] 5).cell 0)
      clear hr hq h0
      go_wp2_with fail
      go_roundw
      case rel => exact ⟨q, u :: t, rfl, valH (ByteArray.ext (by simp)), by omega, HN, by (repeat' (first | exact Below.refl _ _ | assumption | refine balloc ?_ _ | refine below_drawn ?_ _ | refine below_drew ?_ | refine bnext ?_ hb24 | refine bnext ?_ hb23 | refine bnext ?_ hb22 | refine bnext ?_ hb21 | refine bnext ?_ hb20 | refine bnext ?_ hb19 | refine bnext ?_ hb18 | refine bnext ?_ hb17 | refine bnext ?_ hb16 | refine bnext ?_ hb15 | refine bnext ?_ hb14 | refine bnext ?_ hb13 | refine bnext ?_ hb12 | refine bnext ?_ hb11 | refine bnext ?_ hb10 | refine bnext ?_ hb9 | refine bnext ?_ hb8 | refine bnext ?_ hb7 | refine bnext ?_ hb6 | refine bnext ?_ hb5 | refine bnext ?_ hb4 | refine bnext ?_ hb3 | refine bnext ?_ hb2 | refine bnext ?_ hb1))⟩
      case measure => exact dcM_lt m q (u :: t) t (valH (ByteArray.ext (by simp))) (by simp; omega)
def TxO (w2 : World) (N : Nat) (ws : List Nat) (v i : Value) (wr : World) : Prop :=
  ∃ k : Nat, k ≤ (N + 3) / 4 ∧ i = .int .i64 ((4 * k : Nat) : Int) ∧ v = .string ⟨(Lib.decDigits N ++ [58] ++ digL ws k).toArray⟩ ∧ Below w2.heap.size w2 wr
def TxI (w2 : World) (N I : Nat) (ws : List Nat) (d i : Value) (wr : World) : Prop :=
  ∃ j : Nat, j ≤ 4 ∧ (j = 0 ∨ I + j ≤ N) ∧ i = .int .i64 ((I + j : Nat) : Int) ∧ d = .int .i64 (refD ws I j) ∧ Below w2.heap.size w2 wr
set_option maxHeartbeats 4000000 in
theorem rText01_any (N : Int) (A : Option Addr) (n c : Nat) (ws : List Nat) (w : World) (hr : Rd w 1 A n (uw ws)) (hs : wsmall ws) (hn : n ≤ 1000000) :
    Calls Tryd.prog 32 #[.agg #[.int .i64 N, .slice A n c]] w fun e w' => e = .returned (.tuple #[.string ⟨(textB N ws).1.toArray⟩, .int .i64 (textB N ws).2]) ∧ Below w.heap.size w w' := by
  have kB := Bk.new w #[.int .i64 N, .slice A n c] 24
  have hB1 := balloc (Below.refl _ w) (.cells #[.int .i64 N, .slice A n c] 24)
  generalize hw1 : w.alloc (.cells #[.int .i64 N, .slice A n c] 24) = w1 at *
  obtain ⟨cB, fB, lB⟩ := kB.facts
  have hlen : ws.length = n := by have := hr.1; rw [uw_len] at this; omega
  by_cases hE : chkE N ws = 0
  · obtain ⟨z0, z1, z2, z3⟩ := chk_zero N ws hE
    obtain ⟨N, rfl⟩ : ∃ q : Nat, N = q := ⟨N.toNat, by omega⟩
    have hv : textB N ws = (Lib.decDigits N ++ [58] ++ digL ws ((N + 3) / 4), 0) := by unfold textB; rw [if_neg (by simp [hE]), Int.toNat_natCast]
    have HV := Lib.hid hv
    have hN : N ≤ 1024 := by omega
    have h64 : N ≤ 64 * n := by omega
    have hdl := decDigits_len N hN
    have HZ : Hid (∀ i, N ≤ i → i < 64 * n → wbit ws i = false) := Lib.hid (fun i h1 h2 => z3 i (by omega) (by omega) hs)
    clear hv z2 z3 hlen
    go_enter Tryd.func32, Tryd.ntmps32
    go_wp2_with fail
    go_at_call 22
    refine (rCheck_any _ _ _ _ ws _ (hr.below hB1 (Nat.le_refl _)) hs hn).mono ?_
    rw [hE]
    rintro e w2 ⟨rfl, hb2⟩
    clear cB fB lB hw1 hE
    replace kB := kB.to hb2
    replace hB1 := bnext hB1 hb2
    obtain ⟨cB, fB, lB⟩ := kB.facts
    go_wp2_with fail
    go_at_call 58
    refine (rdecimal_any N _ hN).mono ?_
    rintro e w3 ⟨rfl, hb3⟩
    clear cB fB lB
    replace kB := kB.to hb3
    replace hB1 := bnext hB1 hb3
    have hr3 := hr.below hB1 (Nat.le_refl _)
    clear hb2 hb3
    go_wp2_with fail
    go_loopw [5, 6] (TxO w3 N ws) (fun _ i _ => N + 4 - (intOf i).toNat)
    case atStart => exact ⟨0, by omega, rfl, valH (ByteArray.ext (by simp [digL])), Below.refl _ _⟩
    case round =>
      obtain ⟨k, hk, rfl, rfl, hB⟩ := hrel
      have kBr := kB.to hB
      obtain ⟨cB, fB, lB⟩ := kBr.facts
      have hDl : (Lib.decDigits N ++ [58] ++ digL ws k).length ≤ 300 := by rw [List.length_append, List.length_append, digL_len]; simp; omega
      have HD := Lib.hid (show ∀ u, hexC (nib ws k) = u → Lib.decDigits N ++ [58] ++ digL ws (k + 1) = Lib.decDigits N ++ [58] ++ digL ws k ++ [u] from fun u h => by rw [digL_succ, h, ← List.append_assoc])
      have HVk : Hid (k = (N + 3) / 4 → textB N ws = (Lib.decDigits N ++ [58] ++ digL ws k, 0)) := Lib.hid (fun h => by rw [h]; exact HV.out)
      generalize Lib.decDigits N ++ [58] ++ digL ws k = D at *
      by_cases hlt : 4 * k < N
      · have HF := Lib.hid (refD_four ws k)
        have HG := Lib.hid (fun j h1 h2 => refD_end ws k j h1 h2)
        have hnb := nib_lt ws k
        obtain ⟨I, hI⟩ : ∃ I, 4 * k = I := ⟨_, rfl⟩
        have HI := Lib.hid hI
        have HRD := Lib.hid (fun j => refD_lt ws I j)
        rw [hI] at hlt HF HG ⊢
        have hltI : (I : Int) < (N : Int) := by omega
        clear hI
        go_wp2_with fail
        clear cB fB lB
        go_loopw [7, 8] (TxI wr N I ws) (fun _ i _ => I + 4 - (intOf i).toNat)
        case atStart => exact ⟨0, by omega, .inl rfl, rfl, rfl, Below.refl _ _⟩
        case round =>
          clear kBr
          obtain ⟨j, hj, hjN, rfl, rfl, hBi⟩ := hrel
          have hBx := hB.trans (hBi.mono hB.size)
          obtain ⟨cB, fB, lB⟩ := (kB.to hBx).facts
          have hrd := hr3.below hBx (Nat.le_refl _)
          have hrdl := HRD.out j
          by_cases hin : j < 4 ∧ I + j < N
          · obtain ⟨h1, h2⟩ := hin
            have HS : Hid (refD ws I (j + 1) = refD ws I j + if wbit ws (I + j) = true then 2 ^ j else 0) := Lib.hid rfl
            have HH := Lib.hid (fun w h => rhas_any N A n c ws (I + j) w h hs (by omega) (by omega))
            obtain ⟨J, hJ⟩ : ∃ J, I + j = J := ⟨_, rfl⟩
            have HJ := Lib.hid hJ
            rw [hJ] at HS HH h2 ⊢
            have d1 : (J : Int) < (I : Int) + 4 := by omega
            have d2 : (J : Int) < (N : Int) := by omega
            have hrd9 : refD ws I j < 16 := Nat.lt_of_lt_of_le hrdl (Nat.pow_le_pow_right (by omega) (show j ≤ 4 by omega))
            obtain ⟨X, hX⟩ : ∃ X, refD ws I j = X := ⟨_, rfl⟩
            rw [hX] at HS hrd9 ⊢
            have HX := Lib.hid hX
            clear hX hjN
            rcases hwb : wbit ws J with _ | _
            · rw [hwb] at HS HH
              simp only [Bool.false_eq_true, if_false, Nat.add_zero] at HS
              clear hJ hrdl
              go_wp2_with (go_at_call 49; refine (HH.out _ hrd).mono ?_; rintro e w4 ⟨rfl, hb4⟩)
              go_roundw
              case rel => exact ⟨j + 1, by omega, .inr (by have := HJ.out; omega), by have := HJ.out; rw [show I + (j + 1) = J + 1 by omega]; go_num, by rw [HS.out], bnext hBi hb4⟩
              case measure => simp [intOf]; omega
            · rw [hwb] at HS HH
              simp only [if_true] at HS
              have h4 : j = 0 ∨ j = 1 ∨ j = 2 ∨ j = 3 := by omega
              rcases h4 with rfl | rfl | rfl | rfl
              all_goals clear hrdl
              · have hsub : (J : Int) - (I : Int) = 0 := by omega
                clear hJ
                go_wp2_with (go_at_call 49; refine (HH.out _ hrd).mono ?_; rintro e w4 ⟨rfl, hb4⟩)
                go_roundw
                case rel => exact ⟨0 + 1, by omega, .inr (by have := HJ.out; omega), by have := HJ.out; rw [show I + (0 + 1) = J + 1 by omega]; go_num, by rw [HS.out]; go_num, bnext hBi hb4⟩
                case measure => simp [intOf]; omega
              · have hsub : (J : Int) - (I : Int) = 1 := by omega
                clear hJ
                go_wp2_with (go_at_call 49; refine (HH.out _ hrd).mono ?_; rintro e w4 ⟨rfl, hb4⟩)
                go_roundw
                case rel => exact ⟨1 + 1, by omega, .inr (by have := HJ.out; omega), by have := HJ.out; rw [show I + (1 + 1) = J + 1 by omega]; go_num, by rw [HS.out]; go_num, bnext hBi hb4⟩
                case measure => simp [intOf]; omega
              · have hsub : (J : Int) - (I : Int) = 2 := by omega
                clear hJ
                go_wp2_with (go_at_call 49; refine (HH.out _ hrd).mono ?_; rintro e w4 ⟨rfl, hb4⟩)
                go_roundw
                case rel => exact ⟨2 + 1, by omega, .inr (by have := HJ.out; omega), by have := HJ.out; rw [show I + (2 + 1) = J + 1 by omega]; go_num, by rw [HS.out]; go_num, bnext hBi hb4⟩
                case measure => simp [intOf]; omega
              · have hsub : (J : Int) - (I : Int) = 3 := by omega
                clear hJ
                go_wp2_with (go_at_call 49; refine (HH.out _ hrd).mono ?_; rintro e w4 ⟨rfl, hb4⟩)
                go_roundw
                case rel => exact ⟨3 + 1, by omega, .inr (by have := HJ.out; omega), by have := HJ.out; rw [show I + (3 + 1) = J + 1 by omega]; go_num, by rw [HS.out]; go_num, bnext hBi hb4⟩
                case measure => simp [intOf]; omega
          · have hfin : refD ws I j = nib ws k := by
              by_cases h4 : j = 4
              · rw [h4]; exact HF.out
              · have := HI.out
                exact HG.out j hj (fun q h1 h2 => HZ.out _ (by omega) (by omega))
            rw [hfin]
            have hX := hexC_at (nib ws k) hnb
            have HDu := Lib.hid (HD.out _ rfl)
            generalize hexC (nib ws k) = u at *
            generalize nib ws k = y at *
            have hcv := fun wr : World => conv_all (wr.alloc (.cells #[.int .u8 (u.toNat : Int)] 5)) wr.heap.size 1 1 [u] rfl (fun j hj => by
              obtain rfl : j = 0 := by simp at hj; omega
              exact (Bk.new _ #[.int .u8 (u.toNat : Int)] 5).cell 0)
            obtain ⟨J, hJ⟩ : ∃ J, I + j = J := ⟨_, rfl⟩
            rw [hJ]
            have hyI : (y : Int) < 16 := by omega
            have hk4 : k + 1 ≤ (N + 3) / 4 := by have := HI.out; omega
            by_cases h4 : j < 4
            · have d1 : (J : Int) < (I : Int) + 4 := by omega
              have d2 : ¬ (J : Int) < (N : Int) := by omega
              clear hin hJ hfin hjN hrdl
              go_wp2_with fail
              go_roundw
              case rel => exact ⟨k + 1, hk4, by have := HI.out; rw [show 4 * (k + 1) = I + 4 by omega]; go_num, valH (ByteArray.ext (by rw [HDu.out]; simp)), by first | exact balloc hBx _ | ((repeat' (first | exact Below.refl _ _ | assumption | refine balloc ?_ _ | refine below_drawn ?_ _ | refine below_drew ?_ | refine bnext ?_ hb24 | refine bnext ?_ hb23 | refine bnext ?_ hb22 | refine bnext ?_ hb21 | refine bnext ?_ hb20 | refine bnext ?_ hb19 | refine bnext ?_ hb18 | refine bnext ?_ hb17 | refine bnext ?_ hb16 | refine bnext ?_ hb15 | refine bnext ?_ hb14 | refine bnext ?_ hb13 | refine bnext ?_ hb12 | refine bnext ?_ hb11 | refine bnext ?_ hb10 | refine bnext ?_ hb9 | refine bnext ?_ hb8 | refine bnext ?_ hb7 | refine bnext ?_ hb6 | refine bnext ?_ hb5 | refine bnext ?_ hb4 | refine bnext ?_ hb3 | refine bnext ?_ hb2 | refine bnext ?_ hb1)))⟩
              case measure => simp [intOf]; omega
            · have d1 : ¬ (J : Int) < (I : Int) + 4 := by omega
              clear hin hJ hfin hjN hrdl
              go_wp2_with fail
              go_roundw
              case rel => exact ⟨k + 1, hk4, by have := HI.out; rw [show 4 * (k + 1) = I + 4 by omega]; go_num, valH (ByteArray.ext (by rw [HDu.out]; simp)), by first | exact balloc hBx _ | ((repeat' (first | exact Below.refl _ _ | assumption | refine balloc ?_ _ | refine below_drawn ?_ _ | refine below_drew ?_ | refine bnext ?_ hb24 | refine bnext ?_ hb23 | refine bnext ?_ hb22 | refine bnext ?_ hb21 | refine bnext ?_ hb20 | refine bnext ?_ hb19 | refine bnext ?_ hb18 | refine bnext ?_ hb17 | refine bnext ?_ hb16 | refine bnext ?_ hb15 | refine bnext ?_ hb14 | refine bnext ?_ hb13 | refine bnext ?_ hb12 | refine bnext ?_ hb11 | refine bnext ?_ hb10 | refine bnext ?_ hb9 | refine bnext ?_ hb8 | refine bnext ?_ hb7 | refine bnext ?_ hb6 | refine bnext ?_ hb5 | refine bnext ?_ hb4 | refine bnext ?_ hb3 | refine bnext ?_ hb2 | refine bnext ?_ hb1)))⟩
              case measure => simp [intOf]; omega
      · obtain rfl : k = (N + 3) / 4 := by omega
        have HV2 := Lib.hid (HVk.out rfl)
        clear HVk
        have h1 : ¬ ((4 * ((N + 3) / 4) : Nat) : Int) < (N : Int) := by omega
        generalize 4 * ((N + 3) / 4) = J at *
        go_wp2_with fail
        go_ret2
        exact ⟨by rw [HV2.out]; rfl, bnext hB1 hB⟩
  · have hv : textB N ws = ([], chkE N ws) := by unfold textB; rw [if_pos hE]
    rw [hv]
    have hd : (chkE N ws != 0) = true := by simpa using hE
    clear hv hE
    go_enter Tryd.func32, Tryd.ntmps32
    go_wp2_with fail
    go_at_call 22
    refine (rCheck_any _ _ _ _ ws _ (hr.below hB1 (Nat.le_refl _)) hs hn).mono ?_
    rintro e w2 ⟨rfl, hb2⟩
    go_wp2_with fail
    go_ret2
    exact ⟨rfl, bnext hB1 hb2⟩
end Go.Proofs.YtihbdndigfnhkaaDoor
