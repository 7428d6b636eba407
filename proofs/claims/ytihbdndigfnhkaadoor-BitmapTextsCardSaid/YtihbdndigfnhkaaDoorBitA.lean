/- Sets made of numbers. -/
import Derived.Test.YtihbdndigfnhkaaDoorBitY
import Derived.Test.YtihbdndigfnhkaaDoorMod
import Derived.Deep.RegionLaw
import Derived.Deep.RegionHeld3
namespace Go.Proofs.YtihbdndigfnhkaaDoor
open Go Go.Proofs Go.RowKit
set_option linter.unusedSimpArgs false
set_option linter.unusedVariables false
set_option maxRecDepth 100000

theorem own_apart {w : World} {B : Nat} {e : TypeId} {sz n : Nat} {v : Value} {xs : List Value} {p : Addr} (h : w.ownsRow B e sz v n xs) (hp : ∀ g, v.ownBlock = some g → g ≠ p.block) (u : Value) : (w.setCell p u).ownsRow B e sz v n xs := by
  refine ⟨h.1, ?_⟩
  rcases h.2 with hn | ⟨g, cap, cur, hv, hbg, hg, rest⟩
  · exact .inl hn
  · refine .inr ⟨g, cap, cur, hv, hbg, (Below.heap_setCell w p u g (hp g (by rw [hv]; rfl))).trans hg, rest⟩
theorem own_apart2 {w : World} {B : Nat} {e : TypeId} {sz n q : Nat} {v : Value} {xs : List Value} (h : w.ownsRow B e sz v n xs) (hp : ∀ g, v.ownBlock = some g → g ≠ q) (x y : Value) : ((w.setCell ⟨q, 0, none⟩ x).setCell ⟨q, 1, none⟩ y).ownsRow B e sz v n xs :=
  own_apart (p := ⟨q, 1, none⟩) (own_apart (p := ⟨q, 0, none⟩) h hp x) hp y
theorem Bk.far2' {w : World} {b g : Nat} {cs : Array Value} {t : TypeId} (h : Bk w b cs t) (hp : b ≠ g) (u v : Value) : Bk ((w.setCell ⟨g, 0, none⟩ u).setCell ⟨g, 1, none⟩ v) b cs t := (h.far (p := ⟨g, 0, none⟩) hp u).far (p := ⟨g, 1, none⟩) hp v
/-- A box with a set. -/
def BsX (w : World) (p base : Nat) (N : Nat) (ws : List Nat) : Prop := ∃ A m c, Bk w p #[.int .i64 N, .slice A m c] 24 ∧ w.ownsRow base 61 1 (.slice A m c) m (uw ws) ∧ ∀ g, (Value.slice A m c).ownBlock = some g → g ≠ p
def MadR (w : World) (p : Nat) (N : Nat) (e i : Value) (wr : World) : Prop :=
  ∃ (k : Nat) (ws : List Nat), k ≤ 20 ∧ e = .int .i64 0 ∧ i = .int .i64 k ∧ chkE N ws = 0 ∧ wsmall ws ∧ BsX wr p (w.heap.size + 1) N ws ∧ Bk wr w.heap.size #[.int .i64 0, .slice none 0 0] 24 ∧ Below w.heap.size w wr
theorem chk_len {N : Nat} {ws : List Nat} (h : chkE N ws = 0) : ws.length ≤ 17 := by
  obtain ⟨h0, h1, h2, _⟩ := chk_zero N ws h
  omega
theorem put_ok (N : Nat) (ws : List Nat) (a b : Nat) (inn : Bool) (hE : chkE N ws = 0) (hab : a ≤ b) (hb : b ≤ N) : putR N ws a b inn = ((N : Int), wordsOf ((N + 63) / 64) (putF ws N a b inn), 0) := by
  unfold putR
  rw [if_neg (by simp [hE]), if_neg (by omega)]
  simp
theorem put_ok2 (N : Nat) (ws : List Nat) (f t : Nat) (inn : Bool) (hE : chkE N ws = 0) (hb : f + t ≤ N) : putR N ws f ((f : Int) + (t : Int)) inn = ((N : Int), wordsOf ((N + 63) / 64) (putF ws N f (f + t) inn), 0) := by
  have := put_ok N ws f (f + t) inn hE (by omega) hb
  rwa [Int.natCast_add] at this
theorem put_chk (N : Nat) (ws : List Nat) (a b : Nat) (inn : Bool) (hN : N ≤ 1024) : chkE N (wordsOf ((N + 63) / 64) (putF ws N a b inn)) = 0 :=
  chkE_wordsOf N _ hN (fun i hi => by unfold putF; rw [decide_eq_false (by omega)]; rfl)

set_option maxHeartbeats 2000000 in
theorem made_full (N : Nat) (n : Int) (nums : List Int) (A : Option Addr) (c : Nat) (w : World) (hN : n % 301 = N) (hr : Rd w 1 A nums.length (nums.map (Value.int .i64))) (hl : nums.length ≤ 9223372036854775807) :
    Calls Tryd.prog 40 #[.int .i64 n, .slice A nums.length c] w fun e w' => ∃ (ws : List Nat) (A' : Option Addr) (m c' : Nat), e = .returned (.tuple #[.agg #[.int .i64 N, .slice A' m c'], .bool true]) ∧ chkE N ws = 0 ∧ wsmall ws ∧ w'.ownsRow w.heap.size 61 1 (.slice A' m c') m (uw ws) ∧ Below w.heap.size w w' := by
  have hN3 : N ≤ 300 := by have := Int.emod_lt_of_pos n (show (0 : Int) < 301 by omega); omega
  have HM := Lib.hid (fun W => Mod_any n 301 W (by omega) (by omega))
  rw [hN] at HM
  clear hN
  have kR := Bk.new w #[.int .i64 0, .slice none 0 0] 24
  have hB1 := balloc (Below.refl _ w) (.cells #[.int .i64 0, .slice none 0 0] 24)
  have hwA : (w.alloc (.cells #[.int .i64 0, .slice none 0 0] 24)).heap.size = w.heap.size + 1 := by simp
  generalize hw1 : w.alloc (.cells #[.int .i64 0, .slice none 0 0] 24) = wA at *
  go_enter Tryd.func40, Tryd.ntmps40
  go_wp2_with fail
  refine (HM.out _).mono ?_
  rintro e w' ⟨rfl, rfl⟩
  go_wp2_with fail
  refine (New_any N _ (by omega)).mono ?_
  rintro e w1 ⟨A1, rfl, hown1, hb1⟩
  obtain ⟨m, hm⟩ : ∃ m, (N + 63) / 64 = m := ⟨_, rfl⟩
  rw [hm] at hown1 ⊢
  have HE0 : Hid (chkE N (List.replicate m 0) = 0 ∧ wsmall (List.replicate m 0)) := Lib.hid ⟨by rw [← hm, ← listF_words_zero []]; exact chkE_wordsOf N _ (by omega) (fun i _ => by simp [listF]), wsmall_zeros m⟩
  clear hm hw1
  replace kR := kR.to hb1
  replace hB1 := bnext hB1 hb1
  rw [hwA] at hown1
  go_upto_region 3 with fail
  have kT := Bk.new w1 #[.int .i64 N, .slice A1 m m] 24
  replace kR := kR.alloc (.cells #[.int .i64 N, .slice A1 m m] 24)
  replace hB1 := balloc hB1 (.cells #[.int .i64 N, .slice A1 m m] 24)
  have hap : ∀ g, (Value.slice A1 m m).ownBlock = some g → g ≠ w1.heap.size := fun g e => by have := (hown1.lt g e).2; omega
  replace hown1 := hown1.alloc (.cells #[.int .i64 N, .slice A1 m m] 24)
  have hRp : w.heap.size < w1.heap.size := by have := hb1.size; omega
  generalize w1.alloc (.cells #[.int .i64 N, .slice A1 m m] 24) = w2 at *
  go_wp2_with fail
  go_loopw [7, 8] (MadR w w1.heap.size N) (fun _ i _ => 20 - (intOf i).toNat)
  case atStart => exact ⟨0, _, by omega, rfl, rfl, HE0.out.1, HE0.out.2, ⟨A1, m, m, kT, hown1, hap⟩, kR, hB1⟩
  case round =>
    clear kT hown1 hap kR hB1 HE0 hb1
    obtain ⟨k, ws, hk, rfl, rfl, hE, hs, ⟨A2, m2, c2, kT, hown, hap⟩, kR, hBx⟩ := hrel
    obtain ⟨cT, fT, lT⟩ := kT.facts
    by_cases hlt : k < nums.length ∧ k < 20
    · obtain ⟨hlt1, hlt2⟩ := hlt
      obtain ⟨g, off, z, rfl, hg, hz, hc⟩ := (hr.below hBx (Nat.le_refl _)).num hlt1
      have d1 : decide ((k : Int) < (nums.length : Int)) = true := by simp; omega
      have d2 : decide ((k : Int) < 20) = true := by simp; omega
      obtain ⟨f, hf⟩ : ∃ f : Nat, z % ((N : Int) + 1) = f := ⟨(z % ((N : Int) + 1)).toNat, by have := Int.emod_nonneg z (show ((N : Int) + 1) ≠ 0 by omega); omega⟩
      have hf2 : f ≤ N := by have := Int.emod_lt_of_pos z (show (0 : Int) < (N : Int) + 1 by omega); omega
      have HM2 := Lib.hid (fun W => Mod_any z ((N : Int) + 1) W (by omega) (by omega))
      rw [hf] at HM2
      clear hf hz
      go_wp2_with fail
      refine (HM2.out _).mono ?_
      rintro e w' ⟨rfl, rfl⟩
      go_wp2_with fail
      generalize wrap64 (z.tdiv 301) = y
      obtain ⟨t, ht⟩ : ∃ t : Nat, y % ((N : Int) - (f : Int) + 1) = t := ⟨(y % ((N : Int) - (f : Int) + 1)).toNat, by have := Int.emod_nonneg y (show ((N : Int) - (f : Int) + 1) ≠ 0 by omega); omega⟩
      have ht2 : t ≤ N - f := by have := Int.emod_lt_of_pos y (show (0 : Int) < (N : Int) - (f : Int) + 1 by omega); omega
      have HM3 := Lib.hid (fun W => Mod_any y ((N : Int) - (f : Int) + 1) W (by omega) (by omega))
      rw [ht] at HM3
      clear ht
      refine (HM3.out _).mono ?_
      rintro e w' ⟨rfl, rfl⟩
      have hml := chk_len hE
      have hm17 : m2 ≤ 1000000 := by have := hown.1; rw [uw_len] at this; omega
      have hsx := hBx.size
      go_upto_region 8 with fail
      go_region_law
        (first
          | (go_simp; go_at_call 14; refine (Put_any N A2 m2 c2 ws f ((f : Int) + (t : Int)) _ _ (show Rd wr.drew 1 A2 m2 (uw ws) from Rd.own hown) hs hm17).mono ?_; rintro e wQ ⟨AQ, mQ, cQ, he, hownQ, hbQ⟩; rw [put_ok2 N ws f t _ hE (by omega)] at he hownQ; subst he; have kTQ := kT.drew.to hbQ; obtain ⟨cQ', fQ, lQ⟩ := kTQ.facts))
      all_goals
        go_wp2_with fail
        try simp only at hownQ
        have kF := kTQ.put2' (.int .i64 N) (.slice AQ mQ cQ)
        have hapQ : ∀ g, (Value.slice AQ mQ cQ).ownBlock = some g → g ≠ w1.heap.size := fun g e => by have h1 := (hownQ.lt g e).1; have h2 : wr.drew.heap.size = wr.heap.size := rfl; omega
        have hownF := own_less (own_apart2 (q := w1.heap.size) hownQ hapQ (.int .i64 N) (.slice AQ mQ cQ)) (show w.heap.size + 1 ≤ wr.drew.heap.size by have h2 : wr.drew.heap.size = wr.heap.size := rfl; omega)
        have kRF := (kR.drew.to hbQ).far2' (g := w1.heap.size) (by omega) (.int .i64 N) (.slice AQ mQ cQ)
        have hBF := below_put2' (p := w1.heap.size) (bnext (below_drew hBx) hbQ) (by omega) (.int .i64 N) (.slice AQ mQ cQ)
        go_roundw
        case rel => first | exact ⟨k + 1, _, by omega, rfl, by go_num, put_chk N ws f (f + t) _ (by omega), wordsOf_small _ _, ⟨AQ, mQ, cQ, kF, hownF, hapQ⟩, kRF, hBF⟩ | ((repeat apply Exists.intro); exact ⟨⟨k + 1, _, by omega, rfl, by go_num, put_chk N ws f (f + t) _ (by omega), wordsOf_small _ _, ⟨AQ, mQ, cQ, kF, hownF, hapQ⟩, kRF, hBF⟩, rfl⟩)
        case measure => simp [intOf]; omega
    · have hdd : (¬ k < nums.length) ∨ (k < nums.length ∧ ¬ ((k : Int) < 20)) := by
        by_cases h1 : k < nums.length
        · have h2 : ¬ k < 20 := fun h => hlt ⟨h1, h⟩
          exact .inr ⟨h1, by omega⟩
        · exact .inl h1
      clear hlt
      obtain ⟨cR, fR, lR⟩ := kR.facts
      have hne1 : ¬ (w.heap.size = w1.heap.size) := by omega
      have hne2 : ¬ (w1.heap.size = w.heap.size) := by omega
      rcases hdd with d1 | ⟨d1, d2⟩
      all_goals
        go_wp2_with fail
        go_region
        all_goals
          try go_wp2_with fail
          have kF := (kR.put2' (.int .i64 N) (.slice A2 m2 c2)).drew
          have hBF := below_drew (below_put2' (p := w.heap.size) hBx (by omega) (.int .i64 N) (.slice A2 m2 c2))
          have hOF : (((wr.setCell ⟨w.heap.size, 0, none⟩ (.int .i64 N)).setCell ⟨w.heap.size, 1, none⟩ (.slice A2 m2 c2)).drew).ownsRow w.heap.size 61 1 (.slice A2 m2 c2) m2 (uw ws) := own_less (own_put2' (p := w.heap.size) hown (by omega) (.int .i64 N) (.slice A2 m2 c2)) (show w.heap.size ≤ w.heap.size + 1 by omega)
          clear cR fR lR cT fT lT
          generalize ((wr.setCell ⟨w.heap.size, 0, none⟩ (.int .i64 N)).setCell ⟨w.heap.size, 1, none⟩ (.slice A2 m2 c2)).drew = wF at *
          obtain ⟨cF, fF, lF⟩ := kF.facts
          exact bodyPost_ret (v := .tuple #[.agg #[.int .i64 N, .slice A2 m2 c2], .bool true]) (by simp [results, Tryd.results40, go_sem, cF]) rfl ⟨ws, A2, m2, c2, rfl, hE, hs, hOF, hBF⟩
theorem made_any (n : Int) (nums : List Int) (A : Option Addr) (c : Nat) (w : World) (hr : Rd w 1 A nums.length (nums.map (Value.int .i64))) (hl : nums.length ≤ 9223372036854775807) :
    Calls Tryd.prog 40 #[.int .i64 n, .slice A nums.length c] w fun e w' => ∃ (N : Nat) (ws : List Nat) (A' : Option Addr) (m c' : Nat), N ≤ 300 ∧ e = .returned (.tuple #[.agg #[.int .i64 N, .slice A' m c'], .bool true]) ∧ chkE N ws = 0 ∧ wsmall ws ∧ w'.ownsRow w.heap.size 61 1 (.slice A' m c') m (uw ws) ∧ Below w.heap.size w w' := by
  have h1 := Int.emod_nonneg n (show (301 : Int) ≠ 0 by omega)
  have h2 := Int.emod_lt_of_pos n (show (0 : Int) < 301 by omega)
  refine (made_full (n % 301).toNat n nums A c w (by omega) hr hl).mono ?_
  rintro e w' ⟨ws, A', m, c', h⟩
  exact ⟨(n % 301).toNat, ws, A', m, c', by omega, h⟩
end Go.Proofs.YtihbdndigfnhkaaDoor
