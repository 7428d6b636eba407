/- Page tables made of numbers. -/
import Derived.Test.YtnmknbnidfmmoaaDoorMade1
import Derived.Deep.RegionHeld3
import Derived.Deep.RegionLaw
namespace Go.Proofs.YtnmknbnidfmmoaaDoor
open Go Go.Proofs Go.RowKit
set_option linter.unusedSimpArgs false
set_option linter.unusedVariables false
set_option maxRecDepth 100000

theorem lack_at {r : Int} {ls : List Int} {es : List Nat} (h : tabE r ls es = 0) (p : Nat) (hp : p < 64) : lackR r ls es p = (decide (ls.getD (p / 8) 0 = -1), 0) := by
  have ha : askE r ls es p = 0 := by unfold askE; rw [orE_r _ h, if_neg (by omega)]
  unfold lackR
  rw [if_neg (by simp [ha]), Int.toNat_natCast]
theorem put_at {r : Int} {ls : List Int} {es : List Nat} (h : tabE r ls es = 0) (p : Nat) (hp : p < 64) (k n : Int) (a b c : Bool) (hc : chk k n a b c = 0) (hl : ls.getD (p / 8) 0 ≠ -1) :
    ∃ x : Nat, putR r ls es p k n a b c = ((r, ls, es.set p x), 0) ∧ packR k n a b c = ((x : Int), 0) ∧ tabE r ls (es.set p x) = 0 ∧ x < 65536 := by
  have ha : askE r ls es p = 0 := by unfold askE; rw [orE_r _ h, if_neg (by omega)]
  have hp2 : (packR k n a b c).2 = 0 := by unfold packR; rw [if_neg (by simp [hc])]
  obtain ⟨x, hx, hx2⟩ := packR_nat k n a b c hp2
  have hpk : packR k n a b c = ((x : Int), 0) := Prod.ext hx hp2
  have hE : putE r ls es p k n a b c = 0 := by unfold putE; rw [orE_r _ ha, orE_r _ hp2, Int.toNat_natCast, if_neg (fun hh => hl hh.1)]
  refine ⟨x, by unfold putR; rw [if_neg (by omega), hx, Int.toNat_natCast, Int.toNat_natCast], hpk, ?_, hx2⟩
  exact put_valid h p x hp (unpE_pack k n a b c x hpk).1 (fun hh => hl hh.2)

/-- The box of the table that is made. -/
def MdB (w : World) (p lo : Nat) (ls : List Int) (es : List Nat) : Prop := ∃ A c B d, Bk w p #[.int .i64 1, .slice A 8 c, .slice B 64 d] 25 ∧ TbV w (.agg #[.int .i64 1, .slice A 8 c, .slice B 64 d]) (1, ls, es) ∧ TLoc lo (.agg #[.int .i64 1, .slice A 8 c, .slice B 64 d])

/-- What is kept from entry to entry. -/
def MdR (wS : World) (p lo : Nat) (s i : Value) (wr : World) : Prop := ∃ (k : Nat) (es : List Nat), k ≤ 30 ∧ s = .int .i64 0 ∧ i = .int .i64 k ∧ tabE 1 (mdL 8) es = 0 ∧ wsmall es ∧ MdB wr p lo (mdL 8) es ∧ Below p wS wr
theorem MdR.mk {wS wr : World} {p lo : Nat} (k : Nat) (es : List Nat) (hk : k ≤ 30) (hE : tabE 1 (mdL 8) es = 0) (hs : wsmall es) (hm : MdB wr p lo (mdL 8) es) (hb : Below p wS wr) : MdR wS p lo (.int .i64 0) (.int .i64 k) wr := ⟨k, es, hk, rfl, rfl, hE, hs, hm, hb⟩

set_option maxHeartbeats 8000000 in
theorem made_any (nums : List Int) (A : Option Addr) (c : Nat) (w : World) (hr : Rd w 1 A nums.length (iw nums)) (hL : LayOK w) :
    Calls Tryd.prog 28 #[.slice A nums.length c] w fun e w' => ∃ es v, e = .returned (.tuple #[v, .bool true]) ∧ tabE 1 (mdL 8) es = 0 ∧ wsmall es ∧ TbV w' v (1, mdL 8, es) ∧ Below w.heap.size w w' := by
  have kR := Bk.new w #[.int .i64 0, .slice none 0 0, .slice none 0 0] 25
  have hB := balloc (Below.refl _ w) (.cells #[.int .i64 0, .slice none 0 0, .slice none 0 0] 25)
  generalize hw0 : w.alloc (.cells #[.int .i64 0, .slice none 0 0, .slice none 0 0] 25) = w0 at *
  go_enter Tryd.func28, Tryd.ntmps28
  go_wp2_with fail
  refine (TNew_any 1 _).mono ?_
  rw [md_new]
  rintro e w1 ⟨v1, rfl, hv1, hl1, hb1⟩
  obtain ⟨A1, c1, B1, d1, rfl, _, _, _⟩ := id hv1
  simp only [tabV] at hv1 hl1 ⊢
  have e8 : (mdL 0).length = 8 := md_len 0
  have e64 : xe0.length = 64 := by decide
  rw [e8, e64] at hv1 hl1 ⊢
  go_upto_region 2 with fail
  have kT := Bk.new w1 #[.int .i64 1, .slice A1 8 c1, .slice B1 64 d1] 25
  have hcS := balloc (Below.refl _ w1) (.cells #[.int .i64 1, .slice A1 8 c1, .slice B1 64 d1] 25)
  have hvS := hv1.below hcS
  replace kR := (kR.to hb1).to hcS
  have hsR : w.heap.size < w1.heap.size := Nat.lt_of_lt_of_le (Nat.lt_of_lt_of_le (Nat.lt_succ_self _) (by rw [← hw0]; simp)) hb1.size
  generalize hwS : w1.alloc (.cells #[.int .i64 1, .slice A1 8 c1, .slice B1 64 d1] 25) = wS at *
  have hl0 : TLoc (w.heap.size + 1) (.agg #[.int .i64 1, .slice A1 8 c1, .slice B1 64 d1]) := hl1.mono (by rw [← hw0]; simp)
  have hsS : wS.heap.size = w1.heap.size + 1 := by rw [← hwS]; simp
  have hBS : Below w.heap.size w wS := bnext (bnext hB hb1) hcS
  clear hb1 hl1 hv1 hcS hw0 hwS hB
  go_wp2_with fail
  go_loopw [5, 6] (fun s i wr => ∃ k : Nat, k ≤ 8 ∧ s = .int .i64 0 ∧ i = .int .i64 k ∧ MdB wr w1.heap.size (w.heap.size + 1) (mdL k) xe0 ∧ Below w1.heap.size wS wr) (fun _ i _ => 8 - (intOf i).toNat)
  case atStart => exact ⟨0, by omega, rfl, rfl, ⟨A1, c1, B1, d1, kT, hvS, hl0⟩, Below.refl _ _⟩
  case round =>
    obtain ⟨k, hk, rfl, rfl, ⟨Ak, ck, Bq, dk, kTk, hvk, hlk⟩, hBx⟩ := hrel
    have hBw : Below w.heap.size w wr := hBS.trans (hBx.mono (by omega))
    have hsx := hBx.size
    by_cases hlt : k < 8
    · obtain ⟨cT, fT, lT⟩ := kTk.facts
      by_cases h3 : k % 3 = 2
      · have hd : ((k : Int) % 3 != 2) = false := by simp; omega
        have HS := Lib.hid (md_skip k hlt h3)
        clear h3
        go_wp2_with fail
        go_roundw
        case rel => exact ⟨k + 1, by omega, rfl, by go_num, by rw [HS.out]; exact ⟨Ak, ck, Bq, dk, kTk, hvk, hlk⟩, hBx⟩
        case measure => simp [intOf]; omega
      · have hd : ((k : Int) % 3 != 2) = true := by simp; omega
        have HS := Lib.hid (TSetLeaf_any 1 (mdL k) xe0 _ k (100 + k) _ hvk ex_s0 (hL.below hBw))
        rw [md_set k hlt h3] at HS
        clear h3
        go_wp2_with (first | (go_at_call 31; refine HS.out.mono ?_; rintro e w2 ⟨v2, rfl, hv2, hl2, hb2⟩; obtain ⟨A2, c2, B2, d2, rfl, _, _, _⟩ := id hv2; simp only [tabV, md_len, e64] at hv2 hl2 ⊢; obtain ⟨cT2, fT2, lT2⟩ := (kTk.to hb2).facts))
        have kF := (kTk.to hb2).put3 (.int .i64 1) (.slice A2 8 c2) (.slice B2 64 d2)
        have hvF := tbv_put3 hv2 hl2 (g := w1.heap.size) (by omega) (.int .i64 1) (.slice A2 8 c2) (.slice B2 64 d2)
        have hBF : Below w1.heap.size wS (((w2.setCell ⟨w1.heap.size, 0, none⟩ (.int .i64 1)).setCell ⟨w1.heap.size, 1, none⟩ (.slice A2 8 c2)).setCell ⟨w1.heap.size, 2, none⟩ (.slice B2 64 d2)) := (((hBx.trans (hb2.mono (by omega))).setCell (p := ⟨w1.heap.size, 0, none⟩) (Nat.le_refl _) _).setCell (p := ⟨w1.heap.size, 1, none⟩) (Nat.le_refl _) _).setCell (p := ⟨w1.heap.size, 2, none⟩) (Nat.le_refl _) _
        go_roundw
        case rel => exact ⟨k + 1, by omega, rfl, by go_num, ⟨A2, c2, B2, d2, kF, hvF, hl2.mono (by omega)⟩, hBF⟩
        case measure => simp [intOf]; omega
    · obtain rfl : k = 8 := by omega
      go_wp2_with fail
      go_loopw [5, 7] (fun s i wr => MdR wS w1.heap.size (w.heap.size + 1) s i wr) (fun _ i _ => 30 - (intOf i).toNat)
      case atStart => exact MdR.mk 0 xe0 (by omega) md_tab ex_s0 ⟨Ak, ck, Bq, dk, kTk, hvk, hlk⟩ hBx
      case round =>
        clear kTk hvk hlk hBx hBw hsx
        obtain ⟨k, es, hk, rfl, rfl, hE, hs, ⟨Ak, ck, Bq, dk, kTk, hvk, hlk⟩, hBx⟩ := hrel
        have hBw : Below w.heap.size w wr := hBS.trans (hBx.mono (by omega))
        have hsx := hBx.size
        have he64 := (tab_zero hE).2.1
        obtain ⟨cT, fT, lT⟩ := kTk.facts
        by_cases hlt : k < nums.length ∧ k < 30
        · obtain ⟨hlt1, hlt2⟩ := hlt
          obtain ⟨g, off, z, rfl, hg, hz, hc⟩ := (hr.below hBw (Nat.le_refl _)).numb hlt1
          have d1 : decide ((k : Int) < (nums.length : Int)) = true := by simp; omega
          have d2 : decide ((k : Int) < 30) = true := by simp; omega
          obtain ⟨q, hq⟩ : ∃ q : Nat, z % 268435456 = q := ⟨(z % 268435456).toNat, by have := Int.emod_nonneg z (show (268435456 : Int) ≠ 0 by omega); omega⟩
          have hq2 : q < 268435456 := by have := Int.emod_lt_of_pos z (show (0 : Int) < 268435456 by omega); omega
          have HM := Lib.hid (fun W => Mod_any z 268435456 W (by omega) (by omega))
          rw [hq] at HM
          have HL2 := Lib.hid (TLacks_any 1 (mdL 8) es _ (q % 64 : Nat) _ hvk hs (hL.below hBw))
          rw [lack_at hE (q % 64) (by omega)] at HL2
          clear hq hz
          by_cases hla : (mdL 8).getD (q % 64 / 8) 0 = -1
          · rw [decide_eq_true hla] at HL2
            clear hla
            go_wp2_with (first
              | (go_at_call 37; refine (HM.out _).mono ?_; rintro e w2 ⟨rfl, rfl⟩)
              | (go_at_call 19; refine HL2.out.mono ?_; rintro e w3 ⟨rfl, hb3⟩))
            go_roundw
            case rel => first | exact MdR.mk (k + 1) es (by omega) hE hs ⟨Ak, ck, Bq, dk, kTk.to hb3, hvk.to hb3, hlk⟩ (hBx.trans (hb3.mono (by omega))) | ((repeat apply Exists.intro); exact ⟨MdR.mk (k + 1) es (by omega) hE hs ⟨Ak, ck, Bq, dk, kTk.to hb3, hvk.to hb3, hlk⟩ (hBx.trans (hb3.mono (by omega))), rfl⟩) | ((repeat apply Exists.intro); exact ⟨MdR.mk (k + 1) es (by omega) hE hs ⟨Ak, ck, Bq, dk, kTk.to hb3, hvk.to hb3, hlk⟩ (hBx.trans (hb3.mono (by omega))), rfl, rfl, rfl⟩)
            case measure => simp [intOf]; omega
          · rw [decide_eq_false hla] at HL2
            go_wp2_with (first
              | (go_at_call 37; refine (HM.out _).mono ?_; rintro e w2 ⟨rfl, rfl⟩)
              | (go_at_call 19; refine HL2.out.mono ?_; rintro e w3 ⟨rfl, hb3⟩))
            clear cT fT lT
            replace kTk := kTk.to hb3
            replace hvk := hvk.to hb3
            have hLw := (hL.below hBw).below hb3
            replace hBx : Below w1.heap.size wS w3 := hBx.trans (hb3.mono (by omega))
            have hs3 := hb3.size
            obtain ⟨cT, fT, lT⟩ := kTk.facts
            clear HM HL2 hc hg
            go_region_law
              (first
                | (go_simp; go_at_call 38; refine (entry_any _ _).mono ?_; rintro e wP ⟨ek, em, ea, eb, ec, rfl, hchk, hbP⟩; have kTP := kTk.drew.to hbP; obtain ⟨cP, fP, lP⟩ := kTP.facts; have hsP : w3.heap.size ≤ wP.heap.size := hbP.size)
                | (go_simp; go_at_call 29; obtain ⟨x, hput, hpk, hval, hx⟩ := put_at hE (q % 64) (by omega) ek em ea eb ec hchk hla; refine (TPut_any 1 (mdL 8) es _ (q % 64 : Nat) ek em ea eb ec _ (hvk.drew.to hbP) hs (hLw.drew.below hbP)).mono ?_; rw [hput]; rintro e wQ ⟨vQ, rfl, hvQ, hlQ, hbQ⟩; obtain ⟨AQ, cQ, BQ, dQ, rfl, _, _, _⟩ := id hvQ; simp only [tabV, md_len, List.length_set, he64] at hvQ hlQ ⊢; have kTQ := kTP.to hbQ; obtain ⟨cQ', fQ, lQ⟩ := kTQ.facts))
            all_goals
              go_wp2_with fail
              have kF := kTQ.put3 (.int .i64 1) (.slice AQ 8 cQ) (.slice BQ 64 dQ)
              have hvF := tbv_put3 hvQ hlQ (g := w1.heap.size) (by omega) (.int .i64 1) (.slice AQ 8 cQ) (.slice BQ 64 dQ)
              have hBQ : Below w1.heap.size wS wQ := (below_drew hBx).trans ((hbP.mono (show w1.heap.size ≤ w3.drew.heap.size from by show w1.heap.size ≤ w3.heap.size; omega)).trans (hbQ.mono (by omega)))
              have hBF : Below w1.heap.size wS (((wQ.setCell ⟨w1.heap.size, 0, none⟩ (.int .i64 1)).setCell ⟨w1.heap.size, 1, none⟩ (.slice AQ 8 cQ)).setCell ⟨w1.heap.size, 2, none⟩ (.slice BQ 64 dQ)) := ((hBQ.setCell (p := ⟨w1.heap.size, 0, none⟩) (Nat.le_refl _) _).setCell (p := ⟨w1.heap.size, 1, none⟩) (Nat.le_refl _) _).setCell (p := ⟨w1.heap.size, 2, none⟩) (Nat.le_refl _) _
              go_roundw
              case rel => first | exact MdR.mk (k + 1) (es.set (q % 64) x) (by omega) hval (wsmall_set hs _ (show x < 18446744073709551616 by omega)) ⟨AQ, cQ, BQ, dQ, kF, hvF, hlQ.mono (by omega)⟩ hBF | ((repeat apply Exists.intro); exact ⟨MdR.mk (k + 1) (es.set (q % 64) x) (by omega) hval (wsmall_set hs _ (show x < 18446744073709551616 by omega)) ⟨AQ, cQ, BQ, dQ, kF, hvF, hlQ.mono (by omega)⟩ hBF, rfl⟩) | ((repeat apply Exists.intro); exact ⟨MdR.mk (k + 1) (es.set (q % 64) x) (by omega) hval (wsmall_set hs _ (show x < 18446744073709551616 by omega)) ⟨AQ, cQ, BQ, dQ, kF, hvF, hlQ.mono (by omega)⟩ hBF, rfl, rfl, rfl⟩)
              case measure => simp [intOf]; omega
        · have kR2 : Bk wr w.heap.size _ _ := kR.below hBx hsR
          have c0 := kTk.cell 0
          have c1' := kTk.cell 1
          have c2' := kTk.cell 2
          simp at c0 c1' c2'
          have HCk := Lib.hid (fun W h1 h2 => TCheck_any 1 (mdL 8) es (.agg #[.int .i64 1, .slice Ak 8 ck, .slice Bq 64 dk]) W h1 hs h2)
          rw [hE] at HCk
          have hfin : ∀ {W : World}, True := fun {_} => trivial
          have hcases : nums.length ≤ k ∧ decide (k < nums.length) = false ∨ k < nums.length ∧ 30 ≤ k ∧ decide (k < 30) = false := by
            by_cases h : k < nums.length
            · right; exact ⟨h, by omega, by simp; omega⟩
            · left; exact ⟨by omega, by simp; omega⟩
          clear hlt
          have kRc := kR2.cell 0
          rcases hcases with ⟨hd1, hd2⟩ | ⟨hd1, hd2, hd3⟩
          all_goals
            go_wp2_with fail
            go_region_held3 (fun w' => w'.cell? ⟨w1.heap.size, 0, none⟩ = some (.int .i64 1) ∧ w'.cell? ⟨w1.heap.size, 1, none⟩ = some (.slice Ak 8 ck) ∧ w'.cell? ⟨w1.heap.size, 2, none⟩ = some (.slice Bq 64 dk))
              (refine ⟨?_, ?_, ?_⟩ <;> (repeat (with_reducible first | exact c0 | exact c1' | exact c2' | refine cell_drew ?_ | refine cell_later hbC ?_ | refine cell_far ?_ (by show _ ≠ _; simp only; omega) _)))
              (first
                | (go_at_call 15; refine (HCk.out _ hvk.drew (hL.below hBw).drew).mono ?_; rintro e wC ⟨rfl, hbC⟩; have kRC := kR2.drew.to hbC; obtain ⟨cRC, fRC, lRC⟩ := kRC.facts))
            all_goals
              go_wp2_with fail
              have kF := kRC.put3 (.int .i64 1) (.slice Ak 8 ck) (.slice Bq 64 dk)
              have hvF := tbv_put3 (hvk.drew.to hbC) hlk (g := w.heap.size) (by omega) (.int .i64 1) (.slice Ak 8 ck) (.slice Bq 64 dk)
              have hBF := below_put3 (bnext (below_drew hBw) hbC) (g := w.heap.size) (Nat.le_refl _) (.int .i64 1) (.slice Ak 8 ck) (.slice Bq 64 dk)
              exact bodyPost_ret (kF.res2 (P := Tryd.prog) rfl _ rfl (by kernel_rfl) (by kernel_rfl)) rfl ⟨es, _, rfl, hE, hs, hvF, hBF⟩
end Go.Proofs.YtnmknbnidfmmoaaDoor
