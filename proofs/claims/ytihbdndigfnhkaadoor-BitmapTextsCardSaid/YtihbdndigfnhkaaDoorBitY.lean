/- Texts of sets: the text of a set, by the program. -/
import Derived.Test.YtihbdndigfnhkaaDoorBitX
import Derived.Lib.AppendIntMem
namespace Go.Proofs.YtihbdndigfnhkaaDoor
open Go Go.Proofs Go.RowKit
set_option linter.unusedSimpArgs false
set_option linter.unusedVariables false
set_option maxRecDepth 100000

/-- The library's table of the powers of ten lies as the library lays it. -/
def PowOK (w : World) : Prop := Lib.TabIs Tryd.prog w "internal/strconv.uint64pow10" .u64 Lib.pow10Tab
theorem PowOK.below {w w' : World} (h : PowOK w) (hb : Below w.heap.size w w') : PowOK w' := Lib.tabBelow_of_tabIs h w' hb
theorem PowOK.alloc {w : World} (h : PowOK w) (o : Obj) : PowOK (w.alloc o) := h.below ((Below.refl _ _).alloc (Nat.le_refl _) _)
theorem infoB8 : (Tryd.prog.info? 5).map (fun i => (i.zero, i.size, i.bytes)) = some (some (.int .u8 0), 1, 1) := by kernel_rfl
theorem AppendInt_any (N : Nat) (w : World) (hN : N ≤ 100000) (hP : PowOK w) :
    Calls Tryd.prog 57 #[.slice none 0 0, .int .i64 N, .int .i64 10] w fun e w' => ∃ v', e = .returned v' ∧ w'.ownsRow w.heap.size 5 1 v' (Lib.decDigits N).length (byW (Lib.decDigits N)) ∧ Below w.heap.size w w' := by
  refine (Tryd.strconv_AppendInt_10 w.heap.size 0 N (by omega) (by omega) (.slice none 0 0) [] w (World.ownsRow_nil _ _ _ _) (Nat.le_refl _) (by omega) (Lib.tabBelow_of_tabIs hP)).mono ?_
  rintro e w' ⟨v', rfl, h1, h2, _⟩
  have e1 : Lib.itoa (N : Int) = Lib.decDigits N := by unfold Lib.itoa; rw [if_neg (by omega), Int.toNat_natCast]
  rw [e1, Nat.zero_add, List.nil_append] at h1
  exact ⟨v', rfl, h1, h2⟩
theorem decDigits_len (N : Nat) (h : N ≤ 1024) : (Lib.decDigits N).length ≤ 4 := by
  have key : ∀ N, N < 10000 → (Lib.decDigits N).length ≤ 4 := by
    intro N h
    by_cases h1 : N < 10
    · rw [dig_small N h1]; simp
    · rw [dig_big N h1]
      by_cases h2 : N / 10 < 10
      · rw [dig_small _ h2]; simp
      · rw [dig_big _ h2]
        by_cases h3 : N / 10 / 10 < 10
        · rw [dig_small _ h3]; simp
        · rw [dig_big _ h3, dig_small _ (by omega)]; simp
  exact key N (by omega)

def TxtRel (w2 : World) (N : Nat) (ws : List Nat) (v i : Value) (wr : World) : Prop :=
  ∃ k : Nat, k ≤ (N + 3) / 4 ∧ i = .int .i64 k ∧ wr.ownsRow w2.heap.size 5 1 v (Lib.decDigits N ++ [58] ++ digL ws k).length (byW (Lib.decDigits N ++ [58] ++ digL ws k)) ∧ Below w2.heap.size w2 wr
theorem and_nib (x s : Nat) (hx : x < 18446744073709551616) : bits .and .u64 ((x : Int) / 2 ^ s) 15 = ((x / 2 ^ s % 16 : Nat) : Int) := by
  have h1 : x / 2 ^ s < 18446744073709551616 := Nat.lt_of_le_of_lt (Nat.div_le_self _ _) hx
  have h2 := band ((x : Int) / 2 ^ s) (x / 2 ^ s) 15 (by norm_cast) h1 (by omega)
  rw [show (15 : Nat) = 2 ^ 4 - 1 from rfl, Nat.and_two_pow_sub_one_eq_mod] at h2
  exact h2

theorem hexC_at (y : Nat) (h : y < 16) : (⟨#[48, 49, 50, 51, 52, 53, 54, 55, 56, 57, 97, 98, 99, 100, 101, 102]⟩ : ByteArray)[y]'(by show y < 16; exact h) = hexC y := by
  have h2 : y = 0 ∨ y = 1 ∨ y = 2 ∨ y = 3 ∨ y = 4 ∨ y = 5 ∨ y = 6 ∨ y = 7 ∨ y = 8 ∨ y = 9 ∨ y = 10 ∨ y = 11 ∨ y = 12 ∨ y = 13 ∨ y = 14 ∨ y = 15 := by omega
  rcases h2 with rfl | rfl | rfl | rfl | rfl | rfl | rfl | rfl | rfl | rfl | rfl | rfl | rfl | rfl | rfl | rfl <;> rfl
theorem conv_all (w : World) (g cap m : Nat) (l : List UInt8) (hm : m = l.length) (h : ∀ j, (hj : j < l.length) → w.cell? ⟨g, j, none⟩ = some (.int .u8 (l[j].toNat : Int))) :
    (convert 74 9 (.slice (some ⟨g, 0, none⟩) m cap)).run Tryd.prog w = .ok (.string ⟨l.toArray⟩) w := by
  subst hm
  refine run_convert_bytes_back (P := Tryd.prog) _ 74 9 5 ⟨g, 0, none⟩ cap l Tryd.underlying74 Tryd.underlying5 Tryd.underlying9 ?_
  intro j hj
  rw [show (⟨g, 0, none⟩ : Addr).add j = ⟨g, j, none⟩ by unfold Addr.add; split <;> simp_all]
  exact h j hj

set_option maxHeartbeats 2000000 in
theorem Text_any (N : Int) (A : Option Addr) (n c : Nat) (ws : List Nat) (w : World) (hr : Rd w 1 A n (uw ws)) (hs : wsmall ws) (hn : n ≤ 1000000) (hP : PowOK w) :
    Calls Tryd.prog 31 #[.agg #[.int .i64 N, .slice A n c]] w fun e w' => e = .returned (.tuple #[.string ⟨(textB N ws).1.toArray⟩, .int .i64 (textB N ws).2]) ∧ Below w.heap.size w w' := by
  have kB := Bk.new w #[.int .i64 N, .slice A n c] 24
  have hB1 := balloc (Below.refl _ w) (.cells #[.int .i64 N, .slice A n c] 24)
  generalize hw1 : w.alloc (.cells #[.int .i64 N, .slice A n c] 24) = w1 at *
  obtain ⟨cB, fB, lB⟩ := kB.facts
  have hlen : ws.length = n := by have := hr.1; rw [uw_len] at this; omega
  by_cases hE : chkE N ws = 0
  · obtain ⟨z0, z1, z2, _⟩ := chk_zero N ws hE
    obtain ⟨N, rfl⟩ : ∃ q : Nat, N = q := ⟨N.toNat, by omega⟩
    have hv : textB N ws = (Lib.decDigits N ++ [58] ++ digL ws ((N + 3) / 4), 0) := by unfold textB; rw [if_neg (by simp [hE]), Int.toNat_natCast]
    have HV := Lib.hid hv
    have hN : N ≤ 1024 := by omega
    have h64 : N ≤ 64 * n := by omega
    have hdl := decDigits_len N hN
    obtain ⟨i0, hi, hz0, hz1, hz2⟩ := info_parts infoB8
    clear hv z2 hlen
    go_enter Tryd.func31, Tryd.ntmps31
    go_wp2_with fail
    refine (Check_any _ _ _ _ ws _ (hr.below hB1 (Nat.le_refl _)) hs hn).mono ?_
    rw [hE]
    rintro e w2 ⟨rfl, hb2⟩
    clear cB fB lB hw1 hE
    replace kB := kB.to hb2
    replace hB1 := bnext hB1 hb2
    obtain ⟨cB, fB, lB⟩ := kB.facts
    go_wp2_with fail
    refine (AppendInt_any N _ (by omega) (hP.below hB1)).mono ?_
    rintro e w3 ⟨v3, rfl, hown3, hb3⟩
    clear cB fB lB
    have kB0 := kB
    replace kB := kB.to hb3
    go_wp2_with (first
      | (at_builtin; refine wpList_append_own _ rfl _ _ 74 rfl w2.heap.size 5 i0 (.int .u8 0) 1 1 Tryd.underlying74 hi hz0 hz1 hz2 rfl (by decide) _ _ _ rfl (hown3.alloc _) ⟨w3.heap.size, 0, none⟩ 1 1 [.int .u8 58] rfl rfl (cell_one_new _ _ _) (by simp [Value.oneCell']) (by simp only [maxLen]; omega) (by omega) (by have := hb3.size; simp; omega) ?_; intro v4 w4 hown4 hgrow4 hnil4; clear hnil4))
    have hb4 : Below w2.heap.size w2 w4 := (hb3.alloc hb3.size _).grown hgrow4 (by have := hb3.size; simp; omega) (fun q e => (hown3.lt q e).1)
    have hown5 : w4.ownsRow w2.heap.size 5 1 v4 (Lib.decDigits N ++ [58] ++ digL ws 0).length (byW (Lib.decDigits N ++ [58] ++ digL ws 0)) := by
      simpa [byW, digL] using hown4
    clear hown4 hgrow4 hown3 kB hb3
    have hrw : Rd w2 1 A n (uw ws) := hr.below hB1 (Nat.le_refl _)
    go_wp2_with fail
    go_loopw [5, 6] (TxtRel w2 N ws) (fun _ i _ => (N + 3) / 4 - (intOf i).toNat)
    case atStart => exact ⟨0, by omega, rfl, hown5, hb4⟩
    case round =>
      clear hown5 hb4
      obtain ⟨k, hk, rfl, hown, hBx⟩ := hrel
      obtain ⟨cB, fB, lB⟩ := (kB0.to hBx).facts
      have hDl : (Lib.decDigits N ++ [58] ++ digL ws k).length ≤ 300 := by rw [List.length_append, List.length_append, digL_len]; simp; omega
      obtain ⟨D, hD⟩ : ∃ D, Lib.decDigits N ++ [58] ++ digL ws k = D := ⟨_, rfl⟩
      rw [hD] at hown hDl
      by_cases hlt : k * 4 < N
      · have hltI : (k : Int) * 4 < (N : Int) := by omega
        obtain ⟨b, off, x, rfl, hbl, hx, hxs, hc⟩ := (hrw.below hBx (Nat.le_refl _)).word hs (show k / 16 < n by omega)
        have hq := and_nib x (k % 16 * 4) hxs
        obtain ⟨y, hy⟩ : ∃ y, x / 2 ^ (k % 16 * 4) % 16 = y := ⟨_, rfl⟩
        have hy16 : y < 16 := by omega
        have HY : Hid (nib ws k = y) := Lib.hid (by unfold nib; rw [hx, Nat.mul_comm 4]; exact hy)
        rw [hy] at hq
        have HD2 : Hid (Lib.decDigits N ++ [58] ++ digL ws (k + 1) = D ++ [hexC y]) := Lib.hid (by rw [digL_succ, HY.out, ← List.append_assoc, hD])
        have hC : (⟨#[48, 49, 50, 51, 52, 53, 54, 55, 56, 57, 97, 98, 99, 100, 101, 102]⟩ : ByteArray)[y]'(by show y < 16; exact hy16) = hexC y := hexC_at y hy16
        generalize hexC y = u at hC HD2
        clear hx hy hD
        go_wp2_with (first
          | (at_builtin; refine wpList_append_own _ rfl _ _ 74 rfl w2.heap.size 5 i0 (.int .u8 0) 1 1 Tryd.underlying74 hi hz0 hz1 hz2 rfl (by decide) _ _ _ rfl (hown.alloc _) ⟨wr.heap.size, 0, none⟩ 1 1 [.int .u8 (u.toNat : Int)] rfl rfl (cell_one_new _ _ _) (by simp [Value.oneCell']) (by simp only [maxLen]; omega) (by omega) (by have := hBx.size; simp; omega) ?_; intro v' w9 hown' hgrow hnil; clear hnil))
        have hown2 : w9.ownsRow w2.heap.size 5 1 v' (Lib.decDigits N ++ [58] ++ digL ws (k + 1)).length (byW (Lib.decDigits N ++ [58] ++ digL ws (k + 1))) := by
          rw [HD2.out]; simpa [byW] using hown'
        have hBx2 : Below w2.heap.size w2 w9 := (hBx.alloc hBx.size _).grown hgrow (by have := hBx.size; simp; omega) (fun q e => (hown.lt q e).1)
        clear hown' hgrow hown hBx
        go_wp2_with fail
        go_roundw
        case rel => exact ⟨k + 1, by omega, by go_num, hown2, hBx2⟩
        case measure => simp [intOf]; omega
      · have hltI : ¬ (k : Int) * 4 < (N : Int) := by omega
        obtain rfl : k = (N + 3) / 4 := by omega
        have HV2 : Hid (textB N ws = (D, 0)) := Lib.hid (by rw [HV.out, hD])
        have hD0 : 0 < D.length := by rw [← hD]; simp; omega
        obtain ⟨g, cap, rfl, hg1, hg2⟩ := hown.form hD0
        have hcv := conv_all wr g cap D.length D rfl (fun j hj => by
          have := hown.cellAt j (by omega)
          rw [this]
          simp [byW, List.getElem?_eq_getElem hj])
        clear hD
        go_wp2_with fail
        go_ret2
        exact ⟨by rw [HV2.out]; rfl, bnext hB1 hBx⟩
  · have hv : textB N ws = ([], chkE N ws) := by unfold textB; rw [if_pos hE]
    rw [hv]
    have hd : (chkE N ws != 0) = true := by simpa using hE
    clear hv hE
    go_enter Tryd.func31, Tryd.ntmps31
    go_wp2_with fail
    refine (Check_any _ _ _ _ ws _ (hr.below hB1 (Nat.le_refl _)) hs hn).mono ?_
    rintro e w2 ⟨rfl, hb2⟩
    go_wp2_with fail
    go_ret2
    exact ⟨rfl, bnext hB1 hb2⟩
end Go.Proofs.YtihbdndigfnhkaaDoor
