/- Texts of sets: which set a text is, by the program: the digits. -/
import Derived.Test.YtihbdndigfnhkaaDoorBitW
namespace Go.Proofs.YtihbdndigfnhkaaDoor
open Go Go.Proofs Go.RowKit
set_option linter.unusedSimpArgs false
set_option linter.unusedVariables false
set_option maxRecDepth 100000

theorem or_dig (x d s : Nat) (hx : x < 18446744073709551616) (hd : d < 16) (hs : s ≤ 60) : bits .or .u64 (x : Int) (IntKind.u64.wrap ((d : Int) * 2 ^ s)) = ((x ||| d * 2 ^ s : Nat) : Int) := by
  have h3 : d * 2 ^ s < 2 ^ 64 := by
    have h3 : d * 2 ^ s < 16 * 2 ^ s := Nat.mul_lt_mul_of_pos_right hd (Nat.two_pow_pos s)
    have h4 : 16 * 2 ^ s = 2 ^ (s + 4) := by rw [Nat.pow_add]; omega
    have h5 : 2 ^ (s + 4) ≤ 2 ^ 64 := Nat.pow_le_pow_right (by omega) (by omega)
    omega
  rw [uwrap _ (d * 2 ^ s) (by norm_cast) h3]
  exact u64_or_nat _ _ hx h3
set_option maxHeartbeats 2000000 in
theorem Parse_ok (l : List UInt8) (n : Nat) (ds : List UInt8) (w : World) (hl : l.length ≤ 10000) (hC : CutOK w) (hz : sizB l = some (n, ds)) :
    Calls Tryd.prog 33 #[.string ⟨l.toArray⟩] w fun e w' => BitsRes w w' (if allOK n ds ds.length = true then (if 1024 < n then (0, [], 2) else ((n : Int), parW n ds ds.length, 0)) else (0, [], 3)) e := by
  obtain ⟨R, hR⟩ : ∃ R : Int × List Nat × Int, R = (if allOK n ds ds.length = true then (if 1024 < n then (0, [], 2) else ((n : Int), parW n ds ds.length, 0)) else (0, [], 3)) := ⟨_, rfl⟩
  rw [← hR]
  have HR := Lib.hid hR
  clear hR
  obtain ⟨c1, hcut, hn, hlen, hn4⟩ := sizB_some l n ds hz
  have hcl := cut_len l [58]
  rw [hcut] at hcl
  simp only at hcl
  have HC := Lib.hid hcut
  have hsz := Lib.hid (size_any c1)
  rw [hn] at hsz
  clear hcut hn hz
  have kR := Bk.new w #[.int .i64 0, .slice none 0 0] 24
  have hB1 := balloc (Below.refl _ w) (.cells #[.int .i64 0, .slice none 0 0] 24)
  replace hC := hC.alloc (.cells #[.int .i64 0, .slice none 0 0] 24)
  generalize hw1 : w.alloc (.cells #[.int .i64 0, .slice none 0 0] 24) = w1 at *
  have hneI : ((ds.length : Int) != ((n : Int) + 4 - 1) / 4) = false := by rw [bne_eq_false_iff_eq]; omega
  obtain ⟨m, hm⟩ : ∃ m, (n + 63) / 64 = m := ⟨_, rfl⟩
  have hnk : ((n : Int) + 63) / 64 = (m : Int) := by omega
  have hm2 : m ≤ 200 := by omega
  have hmk := run_make_row' (P := Tryd.prog) 22 61 (.int .u64 0) 8 Tryd.underlying22 infoU rfl .i64 .i64 m (by omega) (by omega)
  have hds : ds.length ≤ 2500 := by omega
  have Hm := Lib.hid hm
  have Hl := Lib.hid hlen
  clear hm hlen
  go_enter Tryd.func33, Tryd.ntmps33
  go_wp2_with fail
  refine (Cut_any l [58] _ (by omega) hC).mono ?_
  rw [HC.out]
  rintro e w2 ⟨rfl, hb2⟩
  simp only
  clear hw1
  replace kR := kR.to hb2
  replace hB1 := bnext hB1 hb2
  go_wp2_with fail
  refine (hsz.out _ (by omega)).mono ?_
  rintro e w3 ⟨rfl, hb3⟩
  simp only [Option.getD_some, Option.isSome_some]
  replace kR := kR.to hb3
  replace hB1 := bnext hB1 hb3
  go_wp2_with fail
  refine (words_any _ _ (by omega) (by omega)).mono ?_
  rintro e w' ⟨rfl, rfl⟩
  rw [hnk]
  obtain ⟨cp, w5, hcv, hrb, hb5⟩ := bytes_new (w3.alloc (.cells (madeCells #[.int .u64 0] m) 61)) ds
  have hown := own_below (own_zeros w3 61 m (by omega)) hb5
  have hR3 := kR.lt
  replace kR := (kR.alloc (.cells (madeCells #[.int .u64 0] m) 61)).to hb5
  have hB5 : Below w3.heap.size w3 w5 := bnext (balloc (Below.refl _ _) (.cells (madeCells #[.int .u64 0] m) 61)) hb5
  simp only [World.size_alloc] at hcv hrb
  have H0 : Hid (uw (List.replicate m 0) = uw (parW n ds 0)) := Lib.hid (by rw [parW_zero, Hm.out])
  clear hb5
  go_wp2_with fail
  go_loopw [47] (ParRel w3 w3.heap.size (w3.heap.size + 1) w.heap.size m n ds) (fun i _ => ds.length - (intOf i).toNat)
  case atStart => exact ⟨0, by omega, rfl, Lib.hid rfl, by rw [← H0.out]; exact hown, hrb, kR, hB5⟩
  case round =>
    clear hown hrb kR hB5 hcv H0
    obtain ⟨k, hk, rfl, Hall, hown, hrb, kR, hBx⟩ := hrel
    obtain ⟨cR, fR, lR⟩ := kR.facts
    by_cases hlt : k < ds.length
    · obtain ⟨b, off, e, hbl, hcb⟩ := hrb.byte hlt
      injection e with e
      injection e with e1 e2
      subst e1 e2
      rw [Nat.zero_add] at hcb
      have hk16 : k / 16 < m := by have h1 := Hm.out; have h2 := Hl.out; omega
      have hcw := own_word hown hk16
      have hfw := hown.frozenAt (k / 16)
      have hvb := hexV_bd (ds.getD k 0)
      obtain ⟨x, hx⟩ : ∃ x, (parW n ds k).getD (k / 16) 0 = x := ⟨_, rfl⟩
      have hxs : x < 18446744073709551616 := by rw [← hx]; exact wsmall_get _ (parW_small n ds k) _
      rw [hx] at hcw
      have HX := Lib.hid hx
      obtain ⟨c, hc⟩ : ∃ c, ds.getD k 0 = c := ⟨_, rfl⟩
      rw [hc] at hcb hvb
      by_cases hneg : hexV c < 0
      · have hok : digOK n ds k = false := by unfold digOK; rw [hc, decide_eq_false (by omega)]; rfl
        have HV : Hid (R = (0, [], 3)) := Lib.hid (by rw [HR.out, allOK_no n ds k _ hok hlt]; rfl)
        clear hok hx hc
        go_wp2_with (first | (go_at_call 61; refine (IB_any _ _).mono ?_; rintro e w' ⟨rfl, rfl⟩))
        have kF := kR.put2' (.int .i64 0) (.slice none 0 0)
        have hBF := below_put2' (p := w.heap.size) (bnext hB1 hBx) (by omega) (.int .i64 0) (.slice none 0 0)
        clear cR fR lR
        generalize ((wr.setCell ⟨w.heap.size, 0, none⟩ (.int .i64 0)).setCell ⟨w.heap.size, 1, none⟩ (.slice none 0 0)) = wF at *
        obtain ⟨cF, fF, lF⟩ := kF.facts
        exact bodyPost_ret (v := .tuple #[.agg #[.int .i64 0, .slice none 0 0], .int .i64 3]) (by simp [results, Tryd.results33, go_sem, cF]) rfl ⟨none, 0, 0, by rw [HV.out], by rw [HV.out]; exact own_nil _ _ _ _, hBF⟩
      obtain ⟨d, hd⟩ : ∃ d : Nat, hexV c = d := ⟨(hexV c).toNat, by omega⟩
      have hd16 : d < 16 := by omega
      have hdn : digN ds k = d := by unfold digN; rw [hc, hd]; rfl
      have HD := Lib.hid hdn
      have HI := Lib.hid (IB_any c)
      rw [hd] at HI
      have hEq : 4 * k ≤ n → (d : Int) / 2 ^ min (IntKind.u64.wrap ((n : Int) - (k : Int) * 4)).toNat 64 = ((d / 2 ^ min (n - 4 * k) 64 : Nat) : Int) := by
        intro h
        rw [uwrap _ (n - 4 * k) (by omega) (by omega), Int.toNat_natCast]
        norm_cast
      have hcase : ((¬ ((n : Int) - (k : Int) * 4 < 4)) ∧ digOK n ds k = true) ∨ ((n : Int) - (k : Int) * 4 < 4 ∧ ((d : Int) / 2 ^ min (IntKind.u64.wrap ((n : Int) - (k : Int) * 4)).toNat 64 != 0) = false ∧ digOK n ds k = true) ∨ ((n : Int) - (k : Int) * 4 < 4 ∧ ((d : Int) / 2 ^ min (IntKind.u64.wrap ((n : Int) - (k : Int) * 4)).toNat 64 != 0) = true ∧ digOK n ds k = false) := by
        have h4 : 4 * k ≤ n := by have := Hl.out; omega
        have hok : digOK n ds k = (decide (4 * k + 4 ≤ n) || decide (d / 2 ^ (n - 4 * k) = 0)) := by unfold digOK; rw [hdn, hc, hd, decide_eq_true (by omega)]; rfl
        by_cases h5 : 4 * k + 4 ≤ n
        · exact .inl ⟨by omega, by rw [hok, decide_eq_true h5]; rfl⟩
        · rw [hEq h4, Nat.min_eq_left (by omega)]
          by_cases h6 : d / 2 ^ (n - 4 * k) = 0
          · exact .inr (.inl ⟨by omega, by rw [h6]; rfl, by rw [hok, h6]; simp⟩)
          · exact .inr (.inr ⟨by omega, by rw [bne_iff_ne]; omega, by rw [hok, decide_eq_false h5, decide_eq_false h6]; rfl⟩)
      clear hEq hvb hneg hd hdn hc hx
      rcases hcase with ⟨hq, hok⟩ | ⟨hq, hq2, hok⟩ | ⟨hq, hq2, hok⟩
      · have HA : Hid (allOK n ds (k + 1) = true) := Lib.hid (by rw [allOK_succ, Hall.out, hok]; rfl)
        clear hok
        go_wp2_with (first | (go_at_call 61; refine (HI.out _).mono ?_; rintro e w' ⟨rfl, rfl⟩))
        go_roundw
        case rel =>
          refine ⟨k + 1, by omega, by go_num, HA, ?_, hrb.far' (p := ⟨w3.heap.size, k / 16, none⟩) (fun b off _ e => by injection e with e; injection e with e1; show b ≠ w3.heap.size; omega) _, kR.far (p := ⟨w3.heap.size, k / 16, none⟩) (by show _ ≠ _; simp only; omega) _, hBx.setCell (p := ⟨w3.heap.size, k / 16, none⟩) (Nat.le_refl _) _⟩
          rw [parW_succ n ds k (by rw [Hm.out]; exact hk16), HX.out, HD.out, Nat.mul_comm 4]
          exact own_put hown (k / 16) _ _ (or_dig x d (k % 16 * 4) hxs hd16 (by omega))
        case measure => simp [intOf]; omega
      · have HA : Hid (allOK n ds (k + 1) = true) := Lib.hid (by rw [allOK_succ, Hall.out, hok]; rfl)
        clear hok
        go_wp2_with (first | (go_at_call 61; refine (HI.out _).mono ?_; rintro e w' ⟨rfl, rfl⟩))
        go_roundw
        case rel =>
          refine ⟨k + 1, by omega, by go_num, HA, ?_, hrb.far' (p := ⟨w3.heap.size, k / 16, none⟩) (fun b off _ e => by injection e with e; injection e with e1; show b ≠ w3.heap.size; omega) _, kR.far (p := ⟨w3.heap.size, k / 16, none⟩) (by show _ ≠ _; simp only; omega) _, hBx.setCell (p := ⟨w3.heap.size, k / 16, none⟩) (Nat.le_refl _) _⟩
          rw [parW_succ n ds k (by rw [Hm.out]; exact hk16), HX.out, HD.out, Nat.mul_comm 4]
          exact own_put hown (k / 16) _ _ (or_dig x d (k % 16 * 4) hxs hd16 (by omega))
        case measure => simp [intOf]; omega
      · have HV : Hid (R = (0, [], 3)) := Lib.hid (by rw [HR.out, allOK_no n ds k _ hok hlt]; rfl)
        clear hok
        go_wp2_with (first | (go_at_call 61; refine (HI.out _).mono ?_; rintro e w' ⟨rfl, rfl⟩))
        have kF := kR.put2' (.int .i64 0) (.slice none 0 0)
        have hBF := below_put2' (p := w.heap.size) (bnext hB1 hBx) (by omega) (.int .i64 0) (.slice none 0 0)
        clear cR fR lR
        generalize ((wr.setCell ⟨w.heap.size, 0, none⟩ (.int .i64 0)).setCell ⟨w.heap.size, 1, none⟩ (.slice none 0 0)) = wF at *
        obtain ⟨cF, fF, lF⟩ := kF.facts
        exact bodyPost_ret (v := .tuple #[.agg #[.int .i64 0, .slice none 0 0], .int .i64 3]) (by simp [results, Tryd.results33, go_sem, cF]) rfl ⟨none, 0, 0, by rw [HV.out], by rw [HV.out]; exact own_nil _ _ _ _, hBF⟩
    · obtain rfl : k = ds.length := by omega
      by_cases hbig : 1024 < n
      · have HV : Hid (R = (0, [], 2)) := Lib.hid (by rw [HR.out, Hall.out, if_pos rfl, if_pos hbig])
        have hbI : (1024 : Int) < (n : Int) := by omega
        clear hbig
        go_wp2_with fail
        have kF := kR.put2' (.int .i64 0) (.slice none 0 0)
        have hBF := below_put2' (p := w.heap.size) (bnext hB1 hBx) (by omega) (.int .i64 0) (.slice none 0 0)
        clear cR fR lR
        generalize ((wr.setCell ⟨w.heap.size, 0, none⟩ (.int .i64 0)).setCell ⟨w.heap.size, 1, none⟩ (.slice none 0 0)) = wF at *
        obtain ⟨cF, fF, lF⟩ := kF.facts
        exact bodyPost_ret (v := .tuple #[.agg #[.int .i64 0, .slice none 0 0], .int .i64 2]) (by simp [results, Tryd.results33, go_sem, cF]) rfl ⟨none, 0, 0, by rw [HV.out], by rw [HV.out]; exact own_nil _ _ _ _, hBF⟩
      · have HV : Hid (R = ((n : Int), parW n ds ds.length, 0)) := Lib.hid (by rw [HR.out, Hall.out, if_pos rfl, if_neg hbig])
        have hbI : ¬ (1024 : Int) < (n : Int) := by omega
        clear hbig
        go_wp2_with fail
        have kF := kR.put2' (.int .i64 n) (.slice (some ⟨w3.heap.size, 0, none⟩) m m)
        have hBF := below_put2' (p := w.heap.size) (bnext hB1 hBx) (by omega) (.int .i64 n) (.slice (some ⟨w3.heap.size, 0, none⟩) m m)
        have hOF := own_less (own_put2' (p := w.heap.size) hown hR3 (.int .i64 n) (.slice (some ⟨w3.heap.size, 0, none⟩) m m)) (show w.heap.size ≤ w3.heap.size by omega)
        clear cR fR lR
        generalize ((wr.setCell ⟨w.heap.size, 0, none⟩ (.int .i64 n)).setCell ⟨w.heap.size, 1, none⟩ (.slice (some ⟨w3.heap.size, 0, none⟩) m m)) = wF at *
        obtain ⟨cF, fF, lF⟩ := kF.facts
        exact bodyPost_ret (v := .tuple #[.agg #[.int .i64 n, .slice (some ⟨w3.heap.size, 0, none⟩) m m], .int .i64 0]) (by simp [results, Tryd.results33, go_sem, cF]) rfl ⟨_, m, m, by rw [HV.out], by rw [HV.out]; exact hOF, hBF⟩
theorem Parse_any (l : List UInt8) (w : World) (hl : l.length ≤ 10000) (hC : CutOK w) :
    Calls Tryd.prog 33 #[.string ⟨l.toArray⟩] w fun e w' => BitsRes w w' (parB l) e := by
  unfold parB
  rcases hz : sizB l with _ | ⟨n, ds⟩
  · exact Parse_bad l w hl hC hz
  · exact Parse_ok l n ds w hl hC hz
end Go.Proofs.YtihbdndigfnhkaaDoor
