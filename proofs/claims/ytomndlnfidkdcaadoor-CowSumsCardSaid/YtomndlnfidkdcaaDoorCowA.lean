/- cow.Check, cow.open, cow.decide, cow.Decide, cow.Counts. -/
import Derived.Test.YtomndlnfidkdcaaDoorCow9
namespace Go.Proofs.YtomndlnfidkdcaaDoor
open Go Go.Proofs Go.RowKit Go.Maps
set_option linter.unusedSimpArgs false
set_option linter.unusedVariables false
set_option maxRecDepth 100000

/-- A sharing that came in, as small as the statements take it. -/
structure InS (w : World) (A : Option Addr) (n : Nat) (t : Sh) : Prop where
  rr : RR uw 1 w A n t
  small : shsmall t
  rows : ∀ l ∈ t, l.length ≤ 70
  few : n ≤ 11
theorem InS.to {w w' : World} {A : Option Addr} {n : Nat} {t : Sh} (h : InS w A n t) (hb : Below w.heap.size w w') : InS w' A n t := ⟨h.rr.to hb, h.small, h.rows, h.few⟩
theorem InS.read {w : World} {A : Option Addr} {n : Nat} {t : Sh} (h : InS w A n t) (c : Nat) (hL : LayOK w) : Calls Tryd.prog 41 #[.slice A n c] w fun e w' => ReadR n t w w' e :=
  read_any A n c t w h.few h.rr h.small h.rows hL

theorem sh_zero2 {t : Sh} (h : (shE t).1 = 0) : (shE t).2 = 0 := by rw [((sh_iff t).1 h).zero]
set_option maxHeartbeats 1000000 in
theorem cCheck_any (A : Option Addr) (n c : Nat) (t : Sh) (w : World) (h : InS w A n t) (hL : LayOK w) :
    Calls Tryd.prog 24 #[.slice A n c] w fun e w' => e = .returned (.tuple #[.int .i64 (shE t).1, .int .i64 (shE t).2]) ∧ Below w.heap.size w w' := by
  have HR := Lib.hid (h.read c hL)
  clear h
  go_enter Tryd.func24, Tryd.ntmps24
  go_wp2_with fail
  refine HR.out.mono ?_
  rintro e w1 ⟨hb, ⟨h0, A', c', rfl, hU⟩ | ⟨h0, rfl⟩⟩
  · have H0 := Lib.hid h0
    have H1 := Lib.hid (sh_zero2 h0)
    clear h0
    go_wp2
    go_ret2
    exact ⟨by rw [H0.out, H1.out]; rfl, hb⟩
  · clear h0
    go_wp2
    go_ret2
    exact ⟨rfl, hb⟩

/-- What open returns. -/
def OpenR (n : Nat) (t : Sh) (table page : Int) (w w' : World) (e : Ending) : Prop :=
  Below w.heap.size w w' ∧ ((askS t table page = 0 ∧ ∃ A' c', e = .returned (.tuple #[.slice A' n c', .int .i64 0]) ∧ UO w' w.heap.size (.slice A' n c') (dec t)) ∨
    (askS t table page ≠ 0 ∧ e = .returned (.tuple #[.slice none 0 0, .int .i64 (askS t table page)])))
set_option maxHeartbeats 2000000 in
theorem open_any (A : Option Addr) (n c : Nat) (t : Sh) (table page : Int) (w : World) (h : InS w A n t) (hL : LayOK w) :
    Calls Tryd.prog 51 #[.slice A n c, .int .i64 table, .int .i64 page] w fun e w' => OpenR n t table page w w' e := by
  have HR := Lib.hid (h.read c hL)
  have Hlen := Lib.hid h.rr.len
  have hn := h.few
  clear h
  by_cases h0 : (shE t).1 = 0
  · have H0 := Lib.hid h0
    have hl : t.length = n := Hlen.out
    have hask : askS t table page = if table < 0 ∨ (n : Int) ≤ table ∨ page < 0 ∨ ((rowAt t table.toNat).length : Int) ≤ page then 2 else 0 := by unfold askS; rw [orE_r _ h0, hl]
    have HA := Lib.hid hask
    clear hask h0
    by_cases h1 : table < 0
    · have HB : Hid (askS t table page = 2) := Lib.hid (by rw [HA.out, if_pos (.inl h1)])
      go_enter Tryd.func51, Tryd.ntmps51
      go_wp2_with fail
      refine HR.out.mono ?_
      rintro e w1 ⟨hb, ⟨_, A', c', rfl, hU⟩ | ⟨hq, rfl⟩⟩
      · go_wp2
        go_ret2
        exact ⟨hb, .inr ⟨by rw [HB.out]; decide, by rw [HB.out]; rfl⟩⟩
      · exact absurd H0.out hq
    by_cases h2 : (n : Int) ≤ table
    · have HB : Hid (askS t table page = 2) := Lib.hid (by rw [HA.out, if_pos (.inr (.inl h2))])
      go_enter Tryd.func51, Tryd.ntmps51
      go_wp2_with fail
      refine HR.out.mono ?_
      rintro e w1 ⟨hb, ⟨_, A', c', rfl, hU⟩ | ⟨hq, rfl⟩⟩
      · go_wp2
        go_ret2
        exact ⟨hb, .inr ⟨by rw [HB.out]; decide, by rw [HB.out]; rfl⟩⟩
      · exact absurd H0.out hq
    obtain ⟨i, rfl⟩ : ∃ i : Nat, table = i := ⟨table.toNat, by omega⟩
    have hi : i < n := by omega
    have hi2 : (i : Int) < (n : Int) := by omega
    by_cases h3 : page < 0
    · have HB : Hid (askS t i page = 2) := Lib.hid (by rw [HA.out, if_pos (.inr (.inr (.inl h3)))])
      clear h1 h2
      go_enter Tryd.func51, Tryd.ntmps51
      go_wp2_with fail
      refine HR.out.mono ?_
      rintro e w1 ⟨hb, ⟨_, A', c', rfl, hU⟩ | ⟨hq, rfl⟩⟩
      · go_wp2
        go_ret2
        exact ⟨hb, .inr ⟨by rw [HB.out]; decide, by rw [HB.out]; rfl⟩⟩
      · exact absurd H0.out hq
    obtain ⟨j, rfl⟩ : ∃ j : Nat, page = j := ⟨page.toNat, by omega⟩
    obtain ⟨l, hrow⟩ : ∃ l, t[i]? = some l := ⟨_, List.getElem?_eq_getElem (by rw [hl]; exact hi)⟩
    have hrl : rowAt t i = l := by unfold rowAt; rw [List.getD_eq_getElem?_getD, hrow]; rfl
    rw [Int.toNat_natCast, hrl] at HA
    have HROW := Lib.hid hrow
    clear hrl hrow h1 h2 h3 hl
    by_cases h4 : j < l.length
    · have HB : Hid (askS t i j = 0) := Lib.hid (by rw [HA.out, if_neg (by omega)])
      have hd : decide ((l.length : Int) ≤ (j : Int)) = false := by simp; omega
      go_enter Tryd.func51, Tryd.ntmps51
      go_wp2_with fail
      refine HR.out.mono ?_
      rintro e w1 ⟨hb, ⟨_, A', c', rfl, hU⟩ | ⟨hq, rfl⟩⟩
      · obtain ⟨bA, off, B, cB, rfl, hbl, hcell, hRl⟩ := (hU.rr (by rw [dec_len]; exact Hlen.out)).row (i := i) (l := l.map entW) (by unfold dec; rw [List.getElem?_map, HROW.out]; rfl)
        rw [List.length_map] at hcell
        clear hRl
        go_wp2
        go_ret2
        exact ⟨hb, .inl ⟨HB.out, _, _, rfl, hU⟩⟩
      · exact absurd H0.out hq
    · have HB : Hid (askS t i j = 2) := Lib.hid (by rw [HA.out, if_pos (by omega)])
      have hd : decide ((l.length : Int) ≤ (j : Int)) = true := by simp; omega
      go_enter Tryd.func51, Tryd.ntmps51
      go_wp2_with fail
      refine HR.out.mono ?_
      rintro e w1 ⟨hb, ⟨_, A', c', rfl, hU⟩ | ⟨hq, rfl⟩⟩
      · obtain ⟨bA, off, B, cB, rfl, hbl, hcell, hRl⟩ := (hU.rr (by rw [dec_len]; exact Hlen.out)).row (i := i) (l := l.map entW) (by unfold dec; rw [List.getElem?_map, HROW.out]; rfl)
        rw [List.length_map] at hcell
        clear hRl
        go_wp2
        go_ret2
        exact ⟨hb, .inr ⟨by rw [HB.out]; decide, by rw [HB.out]; rfl⟩⟩
      · exact absurd H0.out hq
  · have hask : askS t table page = (shE t).1 := by unfold askS; rw [orE_l _ h0]
    have HA := Lib.hid hask
    have hne : ((shE t).1 != 0) = true := by simpa using h0
    have H0 := Lib.hid h0
    clear hask h0
    go_enter Tryd.func51, Tryd.ntmps51
    go_wp2_with fail
    refine HR.out.mono ?_
    rintro e w1 ⟨hb, ⟨hq, A', c', rfl, hU⟩ | ⟨_, rfl⟩⟩
    · exact absurd hq H0.out
    · go_wp2
      go_ret2
      exact ⟨hb, .inr ⟨by rw [HA.out]; exact H0.out, by rw [HA.out]; rfl⟩⟩
end Go.Proofs.YtomndlnfidkdcaaDoor
