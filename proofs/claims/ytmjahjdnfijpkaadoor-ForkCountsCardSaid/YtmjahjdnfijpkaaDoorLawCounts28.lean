/- ForkCounts returns true. -/
import Derived.Test.YtmjahjdnfijpkaaDoorHG
import Derived.Test.YtmjahjdnfijpkaaDoorHH
import Derived.Test.YtmjahjdnfijpkaaDoorHQ
import Derived.Test.YtmjahjdnfijpkaaDoorHR
import Derived.Test.YtmjahjdnfijpkaaDoorFkZ
import Derived.Test.YtmjahjdnfijpkaaDoorSpK
import Derived.Deep.RegionHeld3
import Derived.Deep.DeepCutAuto
namespace Go.Proofs.YtmjahjdnfijpkaaDoor
open Go Go.Proofs Go.RowKit
set_option linter.unusedSimpArgs false
set_option linter.unusedVariables false
set_option maxRecDepth 100000

/-- The loop over the address spaces. -/
def FewI (l : List Sp) (w1 : World) (i : Value) (wr : World) : Prop := ∃ k : Nat, k ≤ l.length ∧ i = .int .i64 k ∧ (∀ j, j < k → (l.getD j sp0).1.length ≤ 40 ∧ (l.getD j sp0).2.2.1.length ≤ 10 ∧ (l.getD j sp0).2.2.2.length ≤ 70) ∧ Below w1.heap.size w1 wr
def SpXC (w : World) (p : Nat) (s : Sp) (lo : Nat) : Prop := ∃ A c L cl B d, Bk w p #[.slice A s.1.length c, .int .i64 s.2.1, .slice L s.2.2.1.length cl, .slice B s.2.2.2.length d] 28 ∧ SpV w (.agg #[.slice A s.1.length c, .int .i64 s.2.1, .slice L s.2.2.1.length cl, .slice B s.2.2.2.length d]) s ∧ SLoc lo (.agg #[.slice A s.1.length c, .int .i64 s.2.1, .slice L s.2.2.1.length cl, .slice B s.2.2.2.length d])
theorem cou_lenR {l : List Sp} : (couR l).1.length ≤ 1000 := by
  unfold couR
  split
  · simp
  · rw [cou_len]; omega
theorem Bk.newaC (w : World) (o : Obj) (cs : Array Value) (t : TypeId) : Bk ((w.alloc o).alloc (.cells cs t)) (w.heap.size + 1) cs t := by have := Bk.new (w.alloc o) cs t; rwa [World.size_alloc] at this
theorem have_toC {W w' : World} {g : Nat} {cs : Array Value} {t : TypeId} {q : Prop} (hb : Below W.heap.size W w') (h : Bk W g cs t) (k : g < W.heap.size → Bk w' g cs t → q) : q := k h.lt (h.to hb)
theorem fow_len {s : Sp} {cs : List Int} (h : s.1.length ≤ 1000 ∧ s.2.2.1.length ≤ 1000 ∧ s.2.2.2.length ≤ 1000) : (fowR s cs).1.1.length ≤ 1000 ∧ (fowR s cs).1.2.2.1.length ≤ 1000 ∧ (fowR s cs).1.2.2.2.length ≤ 1000 := by
  unfold fowR
  split
  · exact ⟨by simp [sp0], by simp [sp0, tb0], by simp [sp0, tb0]⟩
  · simp only [List.length_map]
    exact h
theorem fow_small {s : Sp} {cs : List Int} (h : wsmall s.2.2.2) : wsmall (fowR s cs).1.2.2.2 := by
  unfold fowR
  split
  · intro x hx
    simp [sp0, tb0] at hx
  · rename_i hE
    obtain ⟨hS, _⟩ := orE_zero (show fowE s cs = 0 by simpa using hE)
    exact wsmall_map (fowW_kp cs) (spc_zero hS).2.1 h

set_option maxHeartbeats 16000000 in
theorem ForkCounts_true (l : List Sp) (zs : List Int) (A F : Option Addr) (c cf : Nat) (w : World) (hl : SpsV w A l) (hw : ∀ k, k < l.length → wsmall (l.getD k sp0).2.2.2) (hF : Rd w 1 F zs.length (iw zs)) (hn : l.length ≤ maxLen) (hm : zs.length ≤ maxLen) (hL : LayOK w) :
    Calls Tryd.prog 7 #[.slice A l.length c, .slice F zs.length cf] w fun e w' => e = .returned (.bool true) ∧ Below w.heap.size w w' := by
  unfold maxLen at hn hm
  have hB0 := Below.refl w.heap.size w
  by_cases h10 : l.length ≤ 10
  case neg =>
    have hd : decide ((10 : Int) < l.length) = true := decide_eq_true (by omega)
    have hd1 : (10 : Int) < l.length := by omega
    go_enter Tryd.func7, Tryd.ntmps7
    go_wp2_with fail
    refine (awake28_any _ hL).mono ?_
    rintro e w2 ⟨rfl, hb2⟩
    go_wp2_with fail
    go_ret
    exact ⟨rfl, hb2⟩
  have hd : decide ((10 : Int) < l.length) = false := decide_eq_false (by omega)
  have hd1 : ¬ (10 : Int) < l.length := by omega
  by_cases h260 : zs.length ≤ 260
  case neg =>
    have hd2 : decide ((260 : Int) < zs.length) = true := decide_eq_true (by omega)
    have hd3 : (260 : Int) < zs.length := by omega
    go_enter Tryd.func7, Tryd.ntmps7
    go_wp2_with fail
    refine (awake28_any _ hL).mono ?_
    rintro e w2 ⟨rfl, hb2⟩
    go_wp2_with fail
    go_ret
    exact ⟨rfl, hb2⟩
  have hd2 : decide ((260 : Int) < zs.length) = false := decide_eq_false (by omega)
  have hd3 : ¬ (260 : Int) < zs.length := by omega
  have Hl := Lib.hid hl
  have HF := Lib.hid hF
  have Hw := Lib.hid hw
  have HL0 := Lib.hid hL
  obtain ⟨N, hN⟩ : ∃ N, N = l.length := ⟨_, rfl⟩
  rw [← hN] at h10 hd hd1 ⊢
  have HN := Lib.hid hN
  clear hN hl hw hF hn hm
  go_enter Tryd.func7, Tryd.ntmps7
  go_wp2_with fail
  go_loopw [5] (fun i wr => FewI l w i wr) (fun i _ => N - (intOf i).toNat)
  case atStart => exact ⟨0, by omega, rfl, fun j hj => absurd hj (by omega), Below.refl _ _⟩
  case round =>
    obtain ⟨k, hk, rfl, hfew, hBx⟩ := hrel
    by_cases hlt : k < N
    · have hkI : (k : Int) < N := by omega
      have hltL : k < l.length := by have := HN.out; omega
      obtain ⟨b, off, A', c', L, cl, B, d, rfl, x0, x1, x2, x3, hv⟩ := (Hl.out.to hBx).get hltL
      have Hfew := Lib.hid hfew
      have HE : Hid (∀ j, j < k + 1 → (((l.getD k sp0).1.length ≤ 40 ∧ (l.getD k sp0).2.2.1.length ≤ 10 ∧ (l.getD k sp0).2.2.2.length ≤ 70) → (l.getD j sp0).1.length ≤ 40 ∧ (l.getD j sp0).2.2.1.length ≤ 10 ∧ (l.getD j sp0).2.2.2.length ≤ 70)) := Lib.hid (fun j hj h => by
        rcases Nat.lt_or_ge j k with h1 | h1
        · exact hfew j h1
        · obtain rfl : j = k := by omega
          exact h)
      generalize l.getD k sp0 = s at *
      obtain ⟨rs, r, ls, es⟩ := s
      simp only at x0 x1 x2 x3 hv HE
      have HW := Lib.hid (few28_any rs r ls es _ _ hv)
      clear hfew
      by_cases hfw : rs.length ≤ 40 ∧ ls.length ≤ 10 ∧ es.length ≤ 70
      · rw [decide_eq_true hfw] at HW
        have HE2 := Lib.hid (fun j hj => HE.out j hj hfw)
        clear HE hfw
        go_wp2_with fail
        refine HW.out.mono ?_
        rintro e w2 ⟨rfl, hb2⟩
        go_wp2_with fail
        go_roundw
        case rel => exact ⟨k + 1, by omega, by go_num, HE2.out, bnext hBx hb2⟩
        case measure => simp [intOf]; omega
      · rw [decide_eq_false hfw] at HW
        clear HE hfw
        go_wp2_with fail
        refine HW.out.mono ?_
        rintro e w2 ⟨rfl, hb2⟩
        go_wp2_with fail
        refine (awake28_any _ (HL0.out.below (bnext hBx hb2))).mono ?_
        rintro e w3 ⟨rfl, hb3⟩
        go_wp2_with fail
        go_ret
        exact ⟨rfl, bnext (bnext hBx hb2) hb3⟩
    · have hkN : k = l.length := by have := HN.out; omega
      have hfw : ∀ j, j < l.length → (l.getD j sp0).1.length ≤ 40 ∧ (l.getD j sp0).2.2.1.length ≤ 10 ∧ (l.getD j sp0).2.2.2.length ≤ 70 := fun j hj => hfew j (by omega)
      have hkI : ¬ (k : Int) < N := by omega
      clear hfew
      have hgd : ∀ j, j < l.length → (l.getD j sp0).1.length ≤ 1000000 ∧ wsmall (l.getD j sp0).2.2.2 := fun j hj => ⟨by have := (hfw j hj).1; omega, Hw.out j hj⟩
      have hA := Hl.out.to hBx
      replace hL := hL.below hBx
      have HCo := Lib.hid (fun W h hl => fCounts_any l A c W h hgd hl)
      have HCr := Lib.hid (fun W h => rCounts28_any l A c W h hgd)
      have HSc := Lib.hid (fun v v2 W h h2 => SameInts_v (couR l).1 v v2 W h h2 cou_lenR)
      have Hfw := Lib.hid hfw
      have Hgd := Lib.hid hgd
      generalize couR l = CR at *
      obtain ⟨cl0, ce0⟩ := CR
      rw [← HN.out] at HCo HCr
      replace hB0 : Below w.heap.size w wr := hBx
      clear hfw hgd hBx
      go_wp2_with fail
      refine (HCo.out _ hA hL).mono ?_
      rintro e w1 ⟨vp, rfl, hvp, _, hb1⟩
      replace hA := hA.to hb1
      replace hL := hL.below hb1
      replace hB0 := bnext hB0 hb1
      clear hb1
      obtain ⟨Ap, cp, rfl, hrp⟩ := id hvp
      clear hrp
      go_wp2_with fail
      refine (HCr.out _ hA).mono ?_
      rintro e w2 ⟨vq, rfl, hvq, hb2⟩
      replace hA := hA.to hb2
      replace hvp := hvp.to hb2
      replace hL := hL.below hb2
      replace hB0 := bnext hB0 hb2
      clear hb2
      obtain ⟨Aq, cq, rfl, hrq⟩ := id hvq
      clear hrq
      go_wp2_with fail
      refine (HSc.out _ _ _ hvp hvq).mono ?_
      rintro e w3 ⟨rfl, hb3⟩
      replace hA := hA.to hb3
      replace hvp := hvp.to hb3
      replace hvq := hvq.to hb3
      replace hL := hL.below hb3
      replace hB0 := bnext hB0 hb3
      clear hb3
      clear hvp hvq
      by_cases h0 : N = 0
      case pos =>
        subst h0
        go_wp2_with fail
        refine (awake28_any _ hL).mono ?_
        rintro e w9 ⟨rfl, hb9⟩
        go_wp2_with fail
        go_ret
        exact ⟨rfl, bnext hB0 hb9⟩
      have hd5 : ((N : Int) == 0) = false := by rw [beq_eq_false_iff_ne]; omega
      have hd6 : (0 : Int) < N := by omega
      have hL1 : 0 < l.length := by have := HN.out; omega
      obtain ⟨b, off, A', c', L, cl, B, d, rfl, x0, x1, x2, x3, hv⟩ := hA.get hL1
      obtain ⟨hl1, hl2, hl3⟩ := Hfw.out 0 hL1
      have hws := Hw.out 0 hL1
      generalize l.getD 0 sp0 = s at *
      obtain ⟨rs, r, ls, es⟩ := s
      simp only [Nat.zero_mul, Nat.add_zero] at x0 x1 x2 x3 hv hl1 hl2 hl3 hws
      have HOS := Lib.hid (fun v W h => OwnSpace_any rs r ls es v W h (by omega) (by omega) (by omega))
      have HOI := Lib.hid (fun W h => OwnInts28_any F zs.length cf zs W h rfl (by omega))
      have HOw := Lib.hid (fun v F cf W h hl hF => fOwn_any rs r ls es v zs F cf W h (by omega) hws hl hF (by omega))
      have HOr := Lib.hid (fun v F cf W h hF => rOwn28_any rs r ls es v zs F cf W h (by omega) hws hF (by omega))
      have hfl := fow_len (s := (rs, r, ls, es)) (cs := zs) ⟨by simp only; omega, by simp only; omega, by simp only; omega⟩
      have hfs := fow_small (s := (rs, r, ls, es)) (cs := zs) hws
      have HSX := Lib.hid (fun v v2 W h h2 => SameSpace_eq rs r ls es v v2 W h h2 hws (by omega) (by omega) (by omega))
      generalize fowR (rs, r, ls, es) zs = R at *
      obtain ⟨⟨rsO, rO, lsO, esO⟩, nO, eO⟩ := R
      simp only at hfl hfs
      have HSO := Lib.hid (fun v v2 W h h2 => SameSpace_eq rsO rO lsO esO v v2 W h h2 hfs hfl.1 hfl.2.1 hfl.2.2)
      have hr := HF.out.below hB0 (Nat.le_refl _)
      have HcX := Lib.hid x0
      clear hA h0 hl1 hl2 hl3 hws hfl hfs Hfw Hgd
      have hXK := hv
      have x0K := x0
      have x1K := x1
      have x2K := x2
      have x3K := x3
      have hBK := Below.refl w3.heap.size w3
      have hbK : b < w3.heap.size := World.block_lt_of_cell? _ _ x0
      go_wp2_with fail
      refine (HOS.out _ _ hv).mono ?_
      rintro e w4 ⟨vx, rfl, hvx, hb4⟩
      replace hL := hL.below hb4
      replace hB0 := bnext hB0 hb4
      replace hBK := bnext hBK hb4
      clear hb4
      obtain ⟨AX, cX, LX, clX, BX, dX, rfl, _, _, _, _⟩ := id hvx
      simp only [spcV] at hvx ⊢
      go_upto_region 15 with fail
      have kx := Bk.new w4 #[.slice AX rs.length cX, .int .i64 r, .slice LX ls.length clX, .slice BX es.length dX] 28
      have hcN := balloc (Below.refl _ w4) (.cells #[.slice AX rs.length cX, .int .i64 r, .slice LX ls.length clX, .slice BX es.length dX] 28)
      generalize w4.alloc (.cells #[.slice AX rs.length cX, .int .i64 r, .slice LX ls.length clX, .slice BX es.length dX] 28) = w5 at *
      replace hvx := hvx.to hcN
      replace hL := hL.below hcN
      replace hB0 := bnext hB0 hcN
      replace hBK := bnext hBK hcN
      clear hcN
      have s0 := kx.cell 0
      have s1 := kx.cell 1
      have s2 := kx.cell 2
      have s3 := kx.cell 3
      simp at s0 s1 s2 s3
      have hkx := kx.lt
      have hrW := hr.below hBK (Nat.le_refl _)
      go_cut [11, 12, 7] (fun sa sb sc wx => ∃ p2, sa = .pointer (some ⟨p2, 0, none⟩) ∧ sb = .int .i64 nO ∧ sc = .int .i64 eO ∧ SpXC wx p2 (rsO, rO, lsO, esO) w5.heap.size ∧ Below w5.heap.size w5 wx)
      case first =>
        go_region_held3 (fun w' => w'.cell? ⟨w4.heap.size, 0, none⟩ = some (.slice AX rs.length cX) ∧ w'.cell? ⟨w4.heap.size, 1, none⟩ = some (.int .i64 r) ∧ w'.cell? ⟨w4.heap.size, 2, none⟩ = some (.slice LX ls.length clX) ∧ w'.cell? ⟨w4.heap.size, 3, none⟩ = some (.slice BX es.length dX))
          (refine ⟨?_, ?_, ?_, ?_⟩ <;> (repeat (with_reducible first | exact s0 | exact s1 | exact s2 | exact s3 | refine cell_drew ?_ | refine cell_later hbP ?_ | refine cell_later hbQ ?_ | refine cell_alloc _ ?_ | refine cell_far ?_ (by show _ ≠ _; simp only; omega) _)))
          (first
            | (go_at_call 33
               have _h := hbP
               refine (HOw.out _ _ _ _ (by repeat (with_reducible first | exact hvx | refine SpV.to ?_ hbP | refine SpV.to ?_ (below_drew (Below.refl _ _)) | refine SpV.to ?_ (balloc (Below.refl _ _) _))) (by repeat (with_reducible first | exact hL | refine LayOK.below ?_ hbP | refine LayOK.drew ?_ | refine LayOK.alloc ?_ _)) (hrP.below (by repeat (with_reducible first | exact Below.refl _ _ | refine bnext ?_ hbP | refine below_drew ?_ | refine balloc ?_ _)) (Nat.le_refl _))).mono ?_
               rintro e wQ ⟨vQ, rfl, hvQ, hlQ, hbQ⟩
               obtain ⟨AQ, cQ, LQ, clQ, BQ, dQ, rfl, _, _, _, _⟩ := id hvQ
               simp only [spcV] at hvQ hlQ ⊢
               have hsQ : w5.heap.size ≤ wQ.heap.size := Nat.le_trans hsP (Nat.le_trans (by (try simp only [World.size_alloc, World.size_drew]); omega) hbQ.size)
               first
             | (refine have_toC (g := w5.heap.size) (cs := #[.slice none 0 0, .int .i64 0, .slice none 0 0, .slice none 0 0]) (t := 28) hbQ ?_ ?_
                · (repeat (with_reducible first | exact Bk.newd _ _ _ | exact Bk.newda _ _ _ _ | exact Bk.newad _ _ _ _ | exact Bk.newa _ _ _ _ | exact Bk.new _ _ _ | refine Bk.to ?_ hbP | refine Bk.alloc ?_ _ | refine Bk.drew ?_))
                intro hgN kN
                obtain ⟨cN, fN, lN⟩ := kN.facts)
             | (refine have_toC (g := wP.heap.size) (cs := #[.slice none 0 0, .int .i64 0, .slice none 0 0, .slice none 0 0]) (t := 28) hbQ ?_ ?_
                · (repeat (with_reducible first | exact Bk.newd _ _ _ | exact Bk.newda _ _ _ _ | exact Bk.newad _ _ _ _ | exact Bk.newa _ _ _ _ | exact Bk.new _ _ _ | refine Bk.to ?_ hbP | refine Bk.alloc ?_ _ | refine Bk.drew ?_))
                intro hgN kN
                obtain ⟨cN, fN, lN⟩ := kN.facts)
             | skip)
            | (go_at_call 13
               refine (HOI.out _ (hrW.below (by repeat (with_reducible first | exact Below.refl _ _ | refine below_drew ?_ | refine balloc ?_ _)) (Nat.le_refl _))).mono ?_
               rintro e wP ⟨AP, cP, rfl, hcP, hrP, hlP, hbP⟩
               have hsP : w5.heap.size ≤ wP.heap.size := Nat.le_trans (by (try simp only [World.size_alloc, World.size_drew]); omega) hbP.size))
        all_goals
          have hbQw : Below w5.heap.size w5 wQ := by repeat (with_reducible first | exact Below.refl _ _ | refine bnext ?_ hbQ | refine bnext ?_ hbP | refine below_drew ?_ | refine balloc ?_ _)
          go_wp2_with fail
          go_meet
          first
            | exact ⟨_, rfl, rfl, rfl, ⟨AQ, cQ, LQ, clQ, BQ, dQ, kN.put4 _ _ _ _, spv_put4 hvQ hlQ hgN _ _ _ _, hlQ.mono (by (try simp only [World.size_alloc, World.size_drew]); omega)⟩, below_put4 hbQw (by omega) _ _ _ _⟩
            | exact ⟨_, rfl, rfl, rfl, ⟨AQ, cQ, LQ, clQ, BQ, dQ, Bk.new _ _ _, hvQ.to (balloc (Below.refl _ _) _), hlQ.mono (by (try simp only [World.size_alloc, World.size_drew]); omega)⟩, balloc hbQw _⟩
      case rest =>
        obtain ⟨p2, rfl, rfl, rfl, ⟨A7, c7, L7, cl7, B7, d7, kc, hvc, hlc⟩, hcC⟩ := hcut
        simp only at kc hvc hlc
        clear s0 s1 s2 s3 hrW hlc HOw HOI
        replace hvx := hvx.to hcC
        replace kx := kx.to hcC
        replace hL := hL.below hcC
        replace hB0 := bnext hB0 hcC
        replace hBK := bnext hBK hcC
        clear hcC
        have x0 := cell_later hBK x0K
        have x1 := cell_later hBK x1K
        have x2 := cell_later hBK x2K
        have x3 := cell_later hBK x3K
        have hkx := kx.lt
        have hkc := kc.lt
        obtain ⟨c_kx, f_kx, l_kx⟩ := kx.facts
        obtain ⟨c_kc, f_kc, l_kc⟩ := kc.facts
        go_wp2_with fail
        clear c_kx f_kx l_kx
        clear c_kc f_kc l_kc
        refine (HOr.out _ _ _ _ (hXK.to hBK) (hr.below hBK (Nat.le_refl _))).mono ?_
        rintro e w6 ⟨vd, rfl, hvd, _, hb6⟩
        replace hvx := hvx.to hb6
        replace hvc := hvc.to hb6
        replace kx := kx.to hb6
        replace kc := kc.to hb6
        replace hL := hL.below hb6
        replace hB0 := bnext hB0 hb6
        replace hBK := bnext hBK hb6
        clear hb6
        clear x0 x1 x2 x3
        obtain ⟨AD, cD, LD, clD, BD, dD, rfl, _, _, _, _⟩ := id hvd
        simp only [spcV] at hvd ⊢
        obtain ⟨c_kx, f_kx, l_kx⟩ := kx.facts
        obtain ⟨c_kc, f_kc, l_kc⟩ := kc.facts
        go_upto_region 17 with fail
        clear c_kx f_kx l_kx
        clear c_kc f_kc l_kc
        have kd := Bk.new w6 #[.slice AD rsO.length cD, .int .i64 rO, .slice LD lsO.length clD, .slice BD esO.length dD] 28
        have hcN := balloc (Below.refl _ w6) (.cells #[.slice AD rsO.length cD, .int .i64 rO, .slice LD lsO.length clD, .slice BD esO.length dD] 28)
        generalize w6.alloc (.cells #[.slice AD rsO.length cD, .int .i64 rO, .slice LD lsO.length clD, .slice BD esO.length dD] 28) = w7 at *
        replace hvx := hvx.to hcN
        replace hvc := hvc.to hcN
        replace hvd := hvd.to hcN
        replace kx := kx.to hcN
        replace kc := kc.to hcN
        replace hL := hL.below hcN
        replace hB0 := bnext hB0 hcN
        replace hBK := bnext hBK hcN
        clear hcN
        have c0 := kc.cell 0
        have c1 := kc.cell 1
        have c2 := kc.cell 2
        have c3 := kc.cell 3
        have d0 := kd.cell 0
        have d1 := kd.cell 1
        have d2 := kd.cell 2
        have d3 := kd.cell 3
        have s0 := kx.cell 0
        have s1 := kx.cell 1
        have s2 := kx.cell 2
        have s3 := kx.cell 3
        simp at c0 c1 c2 c3 d0 d1 d2 d3 s0 s1 s2 s3
        have x0 := cell_later hBK x0K
        have x1 := cell_later hBK x1K
        have x2 := cell_later hBK x2K
        have x3 := cell_later hBK x3K
        have hvl := hXK.to hBK
        have hN0 : 0 < N := by omega
        go_region_held3 (fun w' => w'.cell? ⟨p2, 0, none⟩ = some (.slice A7 rsO.length c7) ∧ w'.cell? ⟨p2, 1, none⟩ = some (.int .i64 rO) ∧ w'.cell? ⟨p2, 2, none⟩ = some (.slice L7 lsO.length cl7) ∧ w'.cell? ⟨p2, 3, none⟩ = some (.slice B7 esO.length d7) ∧ w'.cell? ⟨w6.heap.size, 0, none⟩ = some (.slice AD rsO.length cD) ∧ w'.cell? ⟨w6.heap.size, 1, none⟩ = some (.int .i64 rO) ∧ w'.cell? ⟨w6.heap.size, 2, none⟩ = some (.slice LD lsO.length clD) ∧ w'.cell? ⟨w6.heap.size, 3, none⟩ = some (.slice BD esO.length dD) ∧ w'.cell? ⟨w4.heap.size, 0, none⟩ = some (.slice AX rs.length cX) ∧ w'.cell? ⟨w4.heap.size, 1, none⟩ = some (.int .i64 r) ∧ w'.cell? ⟨w4.heap.size, 2, none⟩ = some (.slice LX ls.length clX) ∧ w'.cell? ⟨w4.heap.size, 3, none⟩ = some (.slice BX es.length dX) ∧ w'.cell? ⟨b, off, none⟩ = some (.slice A' rs.length c') ∧ w'.cell? ⟨b, off + 1, none⟩ = some (.int .i64 r) ∧ w'.cell? ⟨b, off + 2, none⟩ = some (.slice L ls.length cl) ∧ w'.cell? ⟨b, off + 3, none⟩ = some (.slice B es.length d))
          (refine ⟨?_, ?_, ?_, ?_, ?_, ?_, ?_, ?_, ?_, ?_, ?_, ?_, ?_, ?_, ?_, ?_⟩ <;> (repeat (with_reducible first | exact c0 | exact c1 | exact c2 | exact c3 | exact d0 | exact d1 | exact d2 | exact d3 | exact s0 | exact s1 | exact s2 | exact s3 | exact x0 | exact x1 | exact x2 | exact x3 | refine cell_drew ?_ | refine cell_later hbP ?_ | refine cell_later hbQ ?_ | refine cell_later hbR ?_)))
          (first
            | (go_at_call 18
               first
               | (refine (HSX.out _ _ _ ?_ ?_).mono ?_
                  · (repeat (with_reducible first | exact hvx | refine SpV.to ?_ hbP | refine SpV.to ?_ hbQ | refine SpV.to ?_ (below_drew (Below.refl _ _))))
                  · (repeat (with_reducible first | exact hvl | refine SpV.to ?_ hbP | refine SpV.to ?_ hbQ | refine SpV.to ?_ (below_drew (Below.refl _ _))))
                  rintro e wQ ⟨rfl, hbQ⟩)
               | (refine (HSO.out _ _ _ ?_ ?_).mono ?_
                  · (repeat (with_reducible first | exact hvc | refine SpV.to ?_ hbP | refine SpV.to ?_ hbQ | refine SpV.to ?_ (below_drew (Below.refl _ _))))
                  · (repeat (with_reducible first | exact hvd | refine SpV.to ?_ hbP | refine SpV.to ?_ hbQ | refine SpV.to ?_ (below_drew (Below.refl _ _))))
                  rintro e wP ⟨rfl, hbP⟩))
            | (go_at_call 11
               refine (awake28_any _ (by repeat (with_reducible first | exact hL | refine LayOK.below ?_ hbQ | refine LayOK.below ?_ hbP | refine LayOK.drew ?_))).mono ?_
               rintro e wR ⟨rfl, hbR⟩))
        all_goals
          have hcQ := bnext (bnext (bnext (below_drew (Below.refl _ _)) hbP) hbQ) hbR
          replace hB0 := bnext hB0 hcQ
          go_wp2_with fail
          go_ret
          exact ⟨rfl, hB0⟩
end Go.Proofs.YtmjahjdnfijpkaaDoor
