/- Address spaces made of numbers: the walk. -/
import Derived.Test.YtpkgfkhaiifooaaDoorMd27
namespace Go.Proofs.YtpkgfkhaiifooaaDoor
open Go Go.Proofs Go.RowKit
set_option linter.unusedSimpArgs false
set_option linter.unusedVariables false
set_option maxRecDepth 100000

/-- Where the rows of an address space do not lie. -/
def SNe (g : Nat) (v : Value) : Prop := ∀ A n c r L l cl B m d, v = spcV A n c r L l cl B m d → (∀ b off, 0 < n → A = some ⟨b, off, none⟩ → b ≠ g) ∧ (∀ b off, 0 < l → L = some ⟨b, off, none⟩ → b ≠ g) ∧ (∀ b off, 0 < m → B = some ⟨b, off, none⟩ → b ≠ g)
theorem SNe.mk {g : Nat} {A L B : Option Addr} {n c l cl m d : Nat} {r : Int} (h1 : ∀ b off, 0 < n → A = some ⟨b, off, none⟩ → b ≠ g) (h2 : ∀ b off, 0 < l → L = some ⟨b, off, none⟩ → b ≠ g) (h3 : ∀ b off, 0 < m → B = some ⟨b, off, none⟩ → b ≠ g) : SNe g (.agg #[.slice A n c, .int .i64 r, .slice L l cl, .slice B m d]) := by
  intro A' n' c' r' L' l' cl' B' m' d' h
  simp only [spcV, Value.agg.injEq, Array.mk.injEq, List.cons.injEq, Value.slice.injEq] at h
  obtain ⟨⟨rfl, rfl, rfl⟩, _, ⟨rfl, rfl, rfl⟩, ⟨rfl, rfl, rfl⟩, _⟩ := h
  exact ⟨h1, h2, h3⟩
theorem spv_put4n {w : World} {v : Value} {s : Sp} {g : Nat} (h : SpV w v s) (hl : SNe g v) (x y z u : Value) : SpV ((((w.setCell ⟨g, 0, none⟩ x).setCell ⟨g, 1, none⟩ y).setCell ⟨g, 2, none⟩ z).setCell ⟨g, 3, none⟩ u) v s := by
  obtain ⟨A, c, L, cl, B, d, rfl, h1, h2, h3, h4⟩ := h
  obtain ⟨l1, l2, l3⟩ := hl _ _ _ _ _ _ _ _ _ _ rfl
  exact ⟨A, c, L, cl, B, d, rfl, h1.far4 l1 x y z u, h2.far4 l2 x y z u, h3.far4 l3 x y z u, h4⟩
theorem rd_lt {w : World} {sz n : Nat} {A : Option Addr} {xs : List Value} (h : Rd w sz A n xs) : ∀ b off, 0 < n → A = some ⟨b, off, none⟩ → b < w.heap.size := fun b off h0 he => by
  obtain ⟨b', off', e', hb', _⟩ := h.2 h0
  rw [he] at e'
  injection e' with e'
  injection e' with e'
  omega
/-- What Set leaves: the space with one entry more, or an error. -/
def MeC (rs : List (Int × Int)) (lo p : Nat) (er : Int) (wx : World) : Prop := er = 0 → ∃ es, spcE (rs, 200, mL27 8, es) = 0 ∧ wsmall es ∧ SpX wx p (rs, 200, mL27 8, es) lo
/-- The box of the table that is made. -/
def TbB (w : World) (p lo : Nat) (ls : List Int) : Prop := ∃ A c B d, Bk w p #[.int .i64 200, .slice A 8 c, .slice B 64 d] 26 ∧ TbV w (.agg #[.int .i64 200, .slice A 8 c, .slice B 64 d]) (200, ls, xe0) ∧ TLoc lo (.agg #[.int .i64 200, .slice A 8 c, .slice B 64 d])
/-- What is kept from entry to entry. -/
def MeR (wS : World) (p lo : Nat) (rs : List (Int × Int)) (s i : Value) (wr : World) : Prop := ∃ (k : Nat) (es : List Nat), k ≤ 24 ∧ s = .int .i64 0 ∧ i = .int .i64 k ∧ spcE (rs, 200, mL27 8, es) = 0 ∧ wsmall es ∧ SpX wr p (rs, 200, mL27 8, es) lo ∧ Below p wS wr
theorem MeR.mk {wS wr : World} {p lo : Nat} {rs : List (Int × Int)} (k : Nat) (es : List Nat) (hk : k ≤ 24) (hE : spcE (rs, 200, mL27 8, es) = 0) (hs : wsmall es) (hm : SpX wr p (rs, 200, mL27 8, es) lo) (hb : Below p wS wr) : MeR wS p lo rs (.int .i64 0) (.int .i64 k) wr := ⟨k, es, hk, rfl, rfl, hE, hs, hm, hb⟩

set_option maxHeartbeats 16000000 in
theorem made27_any (nums more : List Int) (A M : Option Addr) (c cm : Nat) (w : World) (hr : Rd w 1 A nums.length (iw nums)) (hn : nums.length ≤ maxLen) (hM : Rd w 1 M more.length (iw more)) (hL : LayOK w) :
    Calls Tryd.prog 9 #[.slice A nums.length c, .slice M more.length cm] w fun e w' => ∃ rs es v, e = .returned (.tuple #[v, .bool true]) ∧ spcE (rs, 200, mL27 8, es) = 0 ∧ wsmall es ∧ rs.length ≤ 64 ∧ SpV w' v (rs, 200, mL27 8, es) ∧ Below w.heap.size w w' := by
  have hL0 := Lib.hid hL
  have hM0 := Lib.hid hM
  have kR := Bk.new w #[.slice none 0 0, .int .i64 0, .slice none 0 0, .slice none 0 0] 28
  have hB := balloc (Below.refl _ w) (.cells #[.slice none 0 0, .int .i64 0, .slice none 0 0, .slice none 0 0] 28)
  generalize hw0 : w.alloc (.cells #[.slice none 0 0, .int .i64 0, .slice none 0 0, .slice none 0 0] 28) = w0 at *
  go_enter Tryd.func9, Tryd.ntmps9
  go_wp2_with fail
  refine (TNew_any 200 _).mono ?_
  rw [m27_new]
  rintro e w1 ⟨v1, rfl, hv1, hl1, hb1⟩
  obtain ⟨A1, c1, B1, d1, rfl, _, _, _⟩ := id hv1
  simp only [tabV] at hv1 hl1 ⊢
  have e8 : (mL27 0).length = 8 := m27_len 0
  have e64 : xe0.length = 64 := by decide
  rw [e8, e64] at hv1 hl1 ⊢
  go_upto_region 2 with fail
  have kT := Bk.new w1 #[.int .i64 200, .slice A1 8 c1, .slice B1 64 d1] 26
  have hcS := balloc (Below.refl _ w1) (.cells #[.int .i64 200, .slice A1 8 c1, .slice B1 64 d1] 26)
  have hvS := hv1.below hcS
  replace kR := (kR.to hb1).to hcS
  have hsR : w.heap.size < w1.heap.size := Nat.lt_of_lt_of_le (Nat.lt_of_lt_of_le (Nat.lt_succ_self _) (by rw [← hw0]; simp)) hb1.size
  generalize hwS : w1.alloc (.cells #[.int .i64 200, .slice A1 8 c1, .slice B1 64 d1] 26) = wS at *
  have hl0 : TLoc (w.heap.size + 1) (.agg #[.int .i64 200, .slice A1 8 c1, .slice B1 64 d1]) := hl1.mono (by rw [← hw0]; simp)
  have hsS : w1.heap.size < wS.heap.size := by rw [← hwS]; simp
  have hBS : Below w.heap.size w wS := bnext (bnext hB hb1) hcS
  clear hb1 hl1 hv1 hcS hw0 hwS hB
  go_wp2_with fail
  go_loopw [7, 8] (fun s i wr => ∃ k : Nat, k ≤ 8 ∧ s = .int .i64 0 ∧ i = .int .i64 k ∧ TbB wr w1.heap.size (w.heap.size + 1) (mL27 k) ∧ Below w1.heap.size wS wr) (fun _ i _ => 8 - (intOf i).toNat)
  case atStart => exact ⟨0, by omega, rfl, rfl, ⟨A1, c1, B1, d1, kT, hvS, hl0⟩, Below.refl _ _⟩
  case round =>
    obtain ⟨k, hk, rfl, rfl, ⟨Ak, ck, Bq, dk, kTk, hvk, hlk⟩, hBx⟩ := hrel
    have hBw : Below w.heap.size w wr := hBS.trans (hBx.mono (by omega))
    have hsx := hBx.size
    by_cases hlt : k < 8
    · obtain ⟨cT, fT, lT⟩ := kTk.facts
      by_cases h3 : k % 4 = 3
      · have hd : ((k : Int) % 4 != 3) = false := by simp; omega
        have HS := Lib.hid (m27_skip k hlt h3)
        clear h3
        go_wp2_with fail
        go_roundw
        case rel => exact ⟨k + 1, by omega, rfl, by go_num, by rw [HS.out]; exact ⟨Ak, ck, Bq, dk, kTk, hvk, hlk⟩, hBx⟩
        case measure => simp [intOf]; omega
      · have hd : ((k : Int) % 4 != 3) = true := by simp; omega
        have HS := Lib.hid (TSetLeaf_any 200 (mL27 k) xe0 _ k (100 + k) _ hvk ex_s0 (hL.below hBw))
        rw [m27_set k hlt h3] at HS
        clear h3
        go_wp2_with (first | (go_at_call 38; refine HS.out.mono ?_; rintro e w2 ⟨v2, rfl, hv2, hl2, hb2⟩; obtain ⟨A2, c2, B2, d2, rfl, _, _, _⟩ := id hv2; simp only [tabV, m27_len, e64] at hv2 hl2 ⊢; obtain ⟨cT2, fT2, lT2⟩ := (kTk.to hb2).facts))
        have kF := (kTk.to hb2).put3 (.int .i64 200) (.slice A2 8 c2) (.slice B2 64 d2)
        have hvF := tbv_put3 hv2 hl2 (g := w1.heap.size) (by omega) (.int .i64 200) (.slice A2 8 c2) (.slice B2 64 d2)
        have hBF : Below w1.heap.size wS (((w2.setCell ⟨w1.heap.size, 0, none⟩ (.int .i64 200)).setCell ⟨w1.heap.size, 1, none⟩ (.slice A2 8 c2)).setCell ⟨w1.heap.size, 2, none⟩ (.slice B2 64 d2)) := (((hBx.trans (hb2.mono (by omega))).setCell (p := ⟨w1.heap.size, 0, none⟩) (Nat.le_refl _) _).setCell (p := ⟨w1.heap.size, 1, none⟩) (Nat.le_refl _) _).setCell (p := ⟨w1.heap.size, 2, none⟩) (Nat.le_refl _) _
        go_roundw
        case rel => exact ⟨k + 1, by omega, rfl, by go_num, ⟨A2, c2, B2, d2, kF, hvF, hl2.mono (by omega)⟩, hBF⟩
        case measure => simp [intOf]; omega
    · obtain rfl : k = 8 := by omega
      clear hlt hvS hl0 kT
      have kRr : Bk wr w.heap.size _ _ := kR.below hBx hsR
      have hLr := hL.below hBw
      have hRr : Rd wr 1 A nums.length (nums.map (Value.int .i64)) := hr.below hBw (Nat.le_refl _)
      have hTl : (∀ b off, 0 < (mL27 8).length → Ak = some ⟨b, off, none⟩ → b < wr.heap.size) ∧ (∀ b off, 0 < xe0.length → Bq = some ⟨b, off, none⟩ → b < wr.heap.size) := by
        obtain ⟨_, _, _, _, e', q1, q2, _⟩ := hvk
        simp only [tabV, Value.agg.injEq, Array.mk.injEq, List.cons.injEq, Value.slice.injEq] at e'
        obtain ⟨_, ⟨rfl, _, _⟩, ⟨rfl, _, _⟩, _⟩ := e'
        exact ⟨rd_lt q1, rd_lt q2⟩
      have hMr := hM.below hBw (Nat.le_refl _)
      clear kR hL hr hM
      have t0 := kTk.cell 0
      have t1 := kTk.cell 1
      have t2 := kTk.cell 2
      simp at t0 t1 t2
      have lT := kTk.lt
      go_upto_region 7 with fail
      go_cut [9] (fun sa wx => ∃ p f, sa = .pointer (some ⟨p, 0, none⟩) ∧ wr.heap.size ≤ p ∧ SpX wx p (regs f, 200, mL27 8, xe0) (w.heap.size + 1) ∧ Below wr.heap.size wr wx)
      case first =>
        go_region_held3 (fun w' => w'.cell? ⟨w1.heap.size, 0, none⟩ = some (.int .i64 200) ∧ w'.cell? ⟨w1.heap.size, 1, none⟩ = some (.slice Ak 8 ck) ∧ w'.cell? ⟨w1.heap.size, 2, none⟩ = some (.slice Bq 64 dk))
          (refine ⟨?_, ?_, ?_⟩ <;> (repeat (with_reducible first | exact t0 | exact t1 | exact t2 | refine cell_drew ?_ | refine cell_later hbP ?_ | refine cell_alloc _ ?_ | refine cell_far ?_ (by show _ ≠ _; simp only; omega) _)))
          (first
            | (go_at_call 39
               refine (Regions_any A nums.length c nums _ (by repeat (with_reducible first | exact hRr | refine Rd.drew1 ?_ | refine Rd.alloc ?_ _)) hn).mono ?_
               rintro e wP ⟨f, vP, rfl, hoP, hbP⟩
               obtain ⟨AP, cP, rfl, hrP⟩ := own_slice hoP
               have hlP := own_loc hoP
               simp only [World.size_alloc, World.size_drew] at hlP
               first
                 | (refine have_to (g := wr.heap.size) (cs := #[.slice none 0 0, .int .i64 0, .slice none 0 0, .slice none 0 0]) (t := 28) hbP ?_ ?_
                    · (repeat (with_reducible first | exact Bk.newd _ _ _ | exact Bk.newda _ _ _ _ | exact Bk.newad _ _ _ _ | exact Bk.newa _ _ _ _ | exact Bk.new _ _ _ | refine Bk.alloc ?_ _ | refine Bk.drew ?_))
                    intro hgN kN
                    obtain ⟨cN, fN, lN⟩ := kN.facts)
                 | skip))
        all_goals
          have hvP : TbV wP (.agg #[.int .i64 200, .slice Ak 8 ck, .slice Bq 64 dk]) (200, mL27 8, xe0) := by repeat (with_reducible first | exact hvk | refine TbV.to ?_ hbP | refine TbV.drew ?_ | refine TbV.alloc ?_ _)
          have hvP2 : TbV wP (.agg #[.int .i64 200, .slice Ak (mL27 8).length ck, .slice Bq xe0.length dk]) (200, mL27 8, xe0) := by simpa only [m27_len, e64] using hvP
          have hspP := spv_mk (c := cP) hrP hvP2
          obtain ⟨l4, l5⟩ := hlk _ _ _ _ _ _ _ rfl
          have hslP : SLoc (w.heap.size + 1) (.agg #[.slice AP (regs f).length cP, .int .i64 200, .slice Ak (mL27 8).length ck, .slice Bq xe0.length dk]) := SLoc.mk (fun b off h0 he => by have := hlP b off h0 he; omega) (fun b off h0 he => l4 b off (by omega) he) (fun b off h0 he => l5 b off (by omega) he)
          have hbPw : Below wr.heap.size wr wP := by repeat (with_reducible first | exact Below.refl _ _ | refine bnext ?_ hbP | refine below_drew ?_ | refine balloc ?_ _)
          go_wp2_with fail
          go_meet
          first
            | exact ⟨_, f, rfl, Nat.le_refl _, ⟨AP, cP, Ak, ck, Bq, dk, kN.put4 _ _ _ _, spv_put4n hspP (SNe.mk (fun b off h0 he => by have := hlP b off h0 he; omega) (fun b off h0 he => by have := hTl.1 b off h0 he; omega) (fun b off h0 he => by have := hTl.2 b off h0 he; omega)) _ _ _ _, hslP⟩, below_put4 hbPw (Nat.le_refl _) _ _ _ _⟩
            | exact ⟨_, f, rfl, hbPw.size, ⟨AP, cP, Ak, ck, Bq, dk, Bk.new _ _ _, hspP.to (balloc (Below.refl _ _) _), hslP⟩, balloc hbPw _⟩
      case rest =>
        obtain ⟨p, f, rfl, hp, hX, hcC⟩ := hcut
        have hBC : Below w.heap.size w wc := bnext hBw hcC
        have kRc := kRr.to hcC
        have hLc := hLr.below hcC
        have hMc := hMr.below hcC (Nat.le_refl _)
        have hwr : w.heap.size < wr.heap.size := kRr.lt
        have hpc : p < wc.heap.size := by obtain ⟨_, _, _, _, _, _, kk, _⟩ := hX; exact kk.lt
        have hrl := (regs_v f).len
        have hsp0 := m27_spc f
        generalize regs f = rs at *
        generalize wc = wd at *
        clear kRr hLr hRr hMr t0 t1 t2 lT kTk hvk hlk hcC hBw hBx hsx hBS hsS hn
        go_wp2_with fail
        go_loopw [10] (fun i wx => MeR wd p (w.heap.size + 1) rs (.int .i64 0) i wx) (fun i _ => 24 - (intOf i).toNat)
        case atStart => exact MeR.mk 0 xe0 (by omega) hsp0 ex_s0 hX (Below.refl _ _)
        case round =>
          clear hX hsp0
          obtain ⟨k, es, hk, _, rfl, hE, hs, ⟨A6, c6, L6, cl6, B6, d6, kX, hvX, hlX⟩, hBx⟩ := hrel
          simp only at kX hvX hlX
          have hBw : Below w.heap.size w wr := hBC.trans (hBx.mono (by omega))
          have hsx := hBx.size
          have hLw := hL0.out.below hBw
          obtain ⟨cX, fX, lX⟩ := kX.facts
          by_cases hlt : k < more.length ∧ k < 24
          · obtain ⟨hlt1, hlt2⟩ := hlt
            obtain ⟨g, off, z, rfl, hg, hz, hc⟩ := (hM0.out.below hBw (Nat.le_refl _)).numb hlt1
            have d1 : decide ((k : Int) < (more.length : Int)) = true := by simp; omega
            have d2 : decide ((k : Int) < 24) = true := by simp; omega
            obtain ⟨q, hq⟩ : ∃ q : Nat, z % 268435456 = q := ⟨(z % 268435456).toNat, by have := Int.emod_nonneg z (show (268435456 : Int) ≠ 0 by omega); omega⟩
            have hq2 : q < 268435456 := by have := Int.emod_lt_of_pos z (show (0 : Int) < 268435456 by omega); omega
            have HM := Lib.hid (fun W => Mod_any z 268435456 W (by omega) (by omega))
            rw [hq] at HM
            clear hq hz
            go_upto_region 12 with (go_at_call 10; refine (HM.out _).mono ?_; rintro e w2 ⟨rfl, rfl⟩)
            clear cX fX lX hc hg HM d1 d2
            have x0 := kX.cell 0
            have x1 := kX.cell 1
            have x2 := kX.cell 2
            have x3 := kX.cell 3
            simp at x0 x1 x2 x3
            have hpx := kX.lt
            go_cut [12, 13] (fun sa sb wx => ∃ p2 er, sa = .pointer (some ⟨p2, 0, none⟩) ∧ sb = .int .i64 er ∧ wr.heap.size ≤ p2 ∧ (er = 0 ∨ er ≠ 0) ∧ MeC rs wr.heap.size p2 er wx ∧ (∃ cs : Array Value, cs.size = 4 ∧ Bk wx p2 cs 28) ∧ Below wr.heap.size wr wx)
            case first =>
              go_region_held3 (fun w' => w'.cell? ⟨p, 0, none⟩ = some (.slice A6 rs.length c6) ∧ w'.cell? ⟨p, 1, none⟩ = some (.int .i64 200) ∧ w'.cell? ⟨p, 2, none⟩ = some (.slice L6 (mL27 8).length cl6) ∧ w'.cell? ⟨p, 3, none⟩ = some (.slice B6 es.length d6))
                (refine ⟨?_, ?_, ?_, ?_⟩ <;> (repeat (with_reducible first | exact x0 | exact x1 | exact x2 | exact x3 | refine cell_drew ?_ | refine cell_later hbP ?_ | refine cell_later hbQ ?_ | refine cell_alloc _ ?_ | refine cell_far ?_ (by show _ ≠ _; simp only; omega) _)))
                (first
                  | (go_at_call 12
                     have _h := hbP
                     rcases hS : setR (rs, 200, mL27 8, es) (q % 64 : Nat) ek em ea eb ec with ⟨⟨rs', r', ls', es'⟩, er⟩
                     refine (Set_any rs 200 (mL27 8) es _ (q % 64 : Nat) ek em ea eb ec _ (by repeat (with_reducible first | exact hvX | refine SpV.to ?_ hbP | refine SpV.to ?_ (below_drew (Below.refl _ _)) | refine SpV.to ?_ (balloc (Below.refl _ _) _))) (by omega) hs (by repeat (with_reducible first | exact hLw | refine LayOK.below ?_ hbP | refine LayOK.drew ?_ | refine LayOK.alloc ?_ _))).mono ?_
                     rw [hS]
                     rintro e wQ ⟨vQ, rfl, hvQ, hlQ, hbQ⟩
                     obtain ⟨AQ, cQ, LQ, clQ, BQ, dQ, rfl, _, _, _, _⟩ := id hvQ
                     simp only [spcV] at hvQ hlQ ⊢
                     have hsQ : wr.heap.size ≤ wQ.heap.size := Nat.le_trans hsP (Nat.le_trans (by (try simp only [World.size_alloc, World.size_drew]); omega) hbQ.size)
                     first
                       | (refine have_to (g := wr.heap.size) (cs := #[.slice none 0 0, .int .i64 0, .slice none 0 0, .slice none 0 0]) (t := 28) hbQ ?_ ?_
                          · (repeat (with_reducible first | exact Bk.newd _ _ _ | exact Bk.newda _ _ _ _ | exact Bk.newad _ _ _ _ | exact Bk.newa _ _ _ _ | exact Bk.new _ _ _ | refine Bk.to ?_ hbP | refine Bk.alloc ?_ _ | refine Bk.drew ?_))
                          intro hgN kN
                          obtain ⟨cN, fN, lN⟩ := kN.facts)
                       | (refine have_to (g := wP.heap.size) (cs := #[.slice none 0 0, .int .i64 0, .slice none 0 0, .slice none 0 0]) (t := 28) hbQ ?_ ?_
                          · (repeat (with_reducible first | exact Bk.newd _ _ _ | exact Bk.newda _ _ _ _ | exact Bk.newad _ _ _ _ | exact Bk.newa _ _ _ _ | exact Bk.new _ _ _ | refine Bk.to ?_ hbP | refine Bk.alloc ?_ _ | refine Bk.drew ?_))
                          intro hgN kN
                          obtain ⟨cN, fN, lN⟩ := kN.facts)
                       | skip)
                  | (go_at_call 40
                     refine (entry27_any _ _).mono ?_
                     rintro e wP ⟨ek, em, ea, eb, ec, rfl, hbP⟩
                     have hsP : wr.heap.size ≤ wP.heap.size := Nat.le_trans (by (try simp only [World.size_alloc, World.size_drew]); omega) hbP.size))
              all_goals
                have hbQw : Below wr.heap.size wr wQ := by repeat (with_reducible first | exact Below.refl _ _ | refine bnext ?_ hbQ | refine bnext ?_ hbP | refine below_drew ?_ | refine balloc ?_ _)
                have hok : er = 0 → ∃ x : Nat, rs' = rs ∧ r' = 200 ∧ ls' = mL27 8 ∧ es' = es.set (q % 64) x ∧ spcE (rs, 200, mL27 8, es.set (q % 64) x) = 0 ∧ wsmall (es.set (q % 64) x) := fun h0 => by
                  obtain ⟨x, g1, _, g3, g4, _⟩ := set_okR hE hs (q % 64) (by omega) ek em ea eb ec (by rw [hS]; exact h0)
                  rw [hS] at g1
                  simp only [Prod.mk.injEq] at g1
                  obtain ⟨⟨g5, g6, g7, g8⟩, _⟩ := g1
                  exact ⟨x, g5, g6, g7, g8, g3, g4⟩
                have HOK := Lib.hid hok
                clear hok
                go_wp2_with fail
                go_meet
                first
                  | exact ⟨_, _, rfl, rfl, by first | exact Nat.le_refl _ | exact hsP, by omega, fun h0 => by
                      obtain ⟨x, rfl, rfl, rfl, rfl, g1, g2⟩ := HOK.out h0
                      exact ⟨_, g1, g2, AQ, cQ, LQ, clQ, BQ, dQ, kN.put4 _ _ _ _, spv_put4 hvQ hlQ hgN _ _ _ _, hlQ.mono (by (try simp only [World.size_alloc, World.size_drew]); omega)⟩, ⟨_, rfl, kN.put4 _ _ _ _⟩, below_put4 hbQw (by omega) _ _ _ _⟩
                  | exact ⟨_, _, rfl, rfl, hsQ, by omega, fun h0 => by
                      obtain ⟨x, rfl, rfl, rfl, rfl, g1, g2⟩ := HOK.out h0
                      exact ⟨_, g1, g2, AQ, cQ, LQ, clQ, BQ, dQ, Bk.new _ _ _, hvQ.to (balloc (Below.refl _ _) _), hlQ.mono (by (try simp only [World.size_alloc, World.size_drew]); omega)⟩, ⟨_, rfl, Bk.new _ _ _⟩, balloc hbQw _⟩
            case rest =>
              obtain ⟨p2, er, rfl, rfl, hp2, _, hC, _, hcC⟩ := hcut
              have kX2 := kX.to hcC
              have hvX2 := hvX.to hcC
              have hBx2 : Below p wd wc := hBx.trans (hcC.mono (by omega))
              clear x0 x1 x2 x3 kX hvX hBx
              by_cases her : er = 0
              · subst her
                obtain ⟨es2, g1, g2, A7, c7, L7, cl7, B7, d7, kY, hvY, hlY⟩ := hC rfl
                simp only at kY hvY hlY
                clear hC
                obtain ⟨cY, fY, lY⟩ := kY.facts
                obtain ⟨cX, fX, lX⟩ := kX2.facts
                go_wp2_with fail
                have kF := kX2.put4 (.slice A7 rs.length c7) (.int .i64 200) (.slice L7 (mL27 8).length cl7) (.slice B7 es2.length d7)
                have hvF := spv_put4 hvY hlY (g := p) hpx (.slice A7 rs.length c7) (.int .i64 200) (.slice L7 (mL27 8).length cl7) (.slice B7 es2.length d7)
                have hBF := (((hBx2.setCell (p := ⟨p, 0, none⟩) (Nat.le_refl _) (.slice A7 rs.length c7)).setCell (p := ⟨p, 1, none⟩) (Nat.le_refl _) (.int .i64 200)).setCell (p := ⟨p, 2, none⟩) (Nat.le_refl _) (.slice L7 (mL27 8).length cl7)).setCell (p := ⟨p, 3, none⟩) (Nat.le_refl _) (.slice B7 es2.length d7)
                have hfin : MeR wd p (w.heap.size + 1) rs (.int .i64 0) (.int .i64 ((k : Int) + 1)) _ := MeR.mk (k + 1) es2 (by omega) g1 g2 ⟨A7, c7, L7, cl7, B7, d7, kF, hvF, hlY.mono (by omega)⟩ hBF
                go_roundw
                case rel => first | exact hfin | ((repeat apply Exists.intro); exact ⟨hfin, rfl⟩) | ((repeat apply Exists.intro); exact ⟨hfin, rfl, rfl⟩)
                case measure => simp [intOf]; omega
              · have hd : (er == 0) = false := by simpa using her
                clear hC her
                go_wp2_with fail
                have hfin : MeR wd p (w.heap.size + 1) rs (.int .i64 0) (.int .i64 ((k : Int) + 1)) _ := MeR.mk (k + 1) es (by omega) hE hs ⟨A6, c6, L6, cl6, B6, d6, kX2, hvX2, hlX⟩ hBx2
                go_roundw
                case rel => first | exact hfin | ((repeat apply Exists.intro); exact ⟨hfin, rfl⟩) | ((repeat apply Exists.intro); exact ⟨hfin, rfl, rfl⟩)
                case measure => simp [intOf]; omega
          · have kR2 := kRc.below hBx (show w.heap.size < p by omega)
            have HCk := Lib.hid (fun v W h1 h2 => spCheck_any rs 200 (mL27 8) es v W h1 (by omega) hs h2)
            rw [hE] at HCk
            have hcases : more.length ≤ k ∧ decide ((k : Int) < (more.length : Int)) = false ∨ k < more.length ∧ 24 ≤ k ∧ decide ((k : Int) < 24) = false := by
              by_cases h : k < more.length
              · right; exact ⟨h, by omega, by simp; omega⟩
              · left; exact ⟨by omega, by simp; omega⟩
            clear hlt cX fX lX
            have x0 := kX.cell 0
            have x1 := kX.cell 1
            have x2 := kX.cell 2
            have x3 := kX.cell 3
            simp at x0 x1 x2 x3
            have hHE := Lib.hid hE
            clear hE
            rcases hcases with ⟨hd1, hd2⟩ | ⟨hd1, hd2, hd3⟩
            all_goals
              go_wp2_with fail
              go_region_held3 (fun w' => w'.cell? ⟨p, 0, none⟩ = some (.slice A6 rs.length c6) ∧ w'.cell? ⟨p, 1, none⟩ = some (.int .i64 200) ∧ w'.cell? ⟨p, 2, none⟩ = some (.slice L6 (mL27 8).length cl6) ∧ w'.cell? ⟨p, 3, none⟩ = some (.slice B6 es.length d6))
                (refine ⟨?_, ?_, ?_, ?_⟩ <;> (repeat (with_reducible first | exact x0 | exact x1 | exact x2 | exact x3 | refine cell_drew ?_ | refine cell_later hbC ?_ | refine cell_far ?_ (by show _ ≠ _; simp only; omega) _)))
                (first
                  | (go_at_call 15; refine (HCk.out _ _ (hvX.to (below_drew (Below.refl _ _))) hLw.drew).mono ?_; rintro e wC ⟨rfl, hbC⟩; have kRC := kR2.drew.to hbC; obtain ⟨cRC, fRC, lRC⟩ := kRC.facts))
            all_goals
              go_wp2_with fail
              have kF := kRC.put4 (.slice A6 rs.length c6) (.int .i64 200) (.slice L6 (mL27 8).length cl6) (.slice B6 es.length d6)
              have hvF := spv_put4 ((hvX.to (below_drew (Below.refl _ _))).to hbC) hlX (g := w.heap.size) (by omega) (.slice A6 rs.length c6) (.int .i64 200) (.slice L6 (mL27 8).length cl6) (.slice B6 es.length d6)
              have hBF := below_put4 (bnext (below_drew hBw) hbC) (g := w.heap.size) (Nat.le_refl _) (.slice A6 rs.length c6) (.int .i64 200) (.slice L6 (mL27 8).length cl6) (.slice B6 es.length d6)
              exact bodyPost_ret (kF.res2 (P := Tryd.prog) rfl _ rfl (by kernel_rfl) (by kernel_rfl)) rfl ⟨rs, es, _, rfl, hHE.out, hs, hrl, hvF, hBF⟩
end Go.Proofs.YtpkgfkhaiifooaaDoor
