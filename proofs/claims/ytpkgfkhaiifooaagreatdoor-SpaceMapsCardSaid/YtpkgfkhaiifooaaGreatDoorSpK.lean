/- Address spaces: the kit's OwnSpace and SameSpace; light, page5, finds of the statements. -/
import Derived.Test.YtpkgfkhaiifooaaGreatDoorSpO
import Derived.Test.YtpkgfkhaiifooaaGreatDoorSpS
import Derived.Test.YtpkgfkhaiifooaaGreatDoorRgK
import Derived.Test.YtpkgfkhaiifooaaGreatDoorGX
import Derived.Deep.RegionHeld3
namespace Go.Proofs.YtpkgfkhaiifooaaGreatDoor
open Go Go.Proofs Go.RowKit
set_option linter.unusedSimpArgs false
set_option linter.unusedVariables false
set_option maxRecDepth 100000

set_option maxHeartbeats 4000000 in
theorem OwnSpace_any (rs : List (Int × Int)) (r : Int) (ls : List Int) (es : List Nat) (v : Value) (w : World) (hv : SpV w v (rs, r, ls, es)) (hn : rs.length ≤ 1000) (hl : ls.length ≤ 1000) (hm : es.length ≤ 1000) :
    Calls Tryz.prog 6 #[v] w fun e w' => ∃ v', e = .returned v' ∧ SpV w' v' (rs, r, ls, es) ∧ Below w.heap.size w w' := by
  obtain ⟨A, c, L, cl, B, d, rfl, hA, hLs, hB, hcc⟩ := hv
  simp only at hA hLs hB hcc
  unfold spcV
  simp only
  have kS := (Bk.new w #[.slice A rs.length c, .int .i64 r, .slice L ls.length cl, .slice B es.length d] 28).alloc (.cells #[.slice none 0 0, .int .i64 0, .slice none 0 0, .slice none 0 0] 28)
  have kR := Bk.new (w.alloc (.cells #[.slice A rs.length c, .int .i64 r, .slice L ls.length cl, .slice B es.length d] 28)) #[.slice none 0 0, .int .i64 0, .slice none 0 0, .slice none 0 0] 28
  simp only [World.size_alloc] at kR
  have hB1 := balloc (balloc (Below.refl _ w) (.cells #[.slice A rs.length c, .int .i64 r, .slice L ls.length cl, .slice B es.length d] 28)) (.cells #[.slice none 0 0, .int .i64 0, .slice none 0 0, .slice none 0 0] 28)
  generalize hw1 : (w.alloc (.cells #[.slice A rs.length c, .int .i64 r, .slice L ls.length cl, .slice B es.length d] 28)).alloc (.cells #[.slice none 0 0, .int .i64 0, .slice none 0 0, .slice none 0 0] 28) = w1 at *
  have hA1 := hA.below hB1 (Nat.le_refl _)
  have hL1 := hLs.below hB1 (Nat.le_refl _)
  have hE1 := hB.below hB1 (Nat.le_refl _)
  have s0 := kS.cell 0
  have s1 := kS.cell 1
  have s2 := kS.cell 2
  have s3 := kS.cell 3
  simp at s0 s1 s2 s3
  have hsR := kR.lt
  go_enter Tryz.func6, Tryz.ntmps6
  go_wp2_with fail
  clear hw1
  go_region_held3 (fun w' => w'.cell? ⟨w.heap.size, 0, none⟩ = some (.slice A rs.length c) ∧ w'.cell? ⟨w.heap.size, 1, none⟩ = some (.int .i64 r) ∧ w'.cell? ⟨w.heap.size, 2, none⟩ = some (.slice L ls.length cl) ∧ w'.cell? ⟨w.heap.size, 3, none⟩ = some (.slice B es.length d))
    (refine ⟨?_, ?_, ?_, ?_⟩ <;> (repeat (with_reducible first | exact s0 | exact s1 | exact s2 | exact s3 | refine cell_drew ?_ | refine cell_later hbI ?_ | refine cell_later hbU ?_ | refine cell_alloc _ ?_ | refine cell_far ?_ (by show _ ≠ _; simp only; omega) _)))
    (first
      | (go_at_call 18
         refine (OwnRanges_own A rs.length c rs _ (by omega) (by repeat (with_reducible first | exact hA1 | refine Rd.drew1 ?_ | refine Rd.alloc ?_ _))).mono ?_
         rintro e wI ⟨AI, cI, rfl, hoI, hbI⟩
         have hlI := own_loc hoI
         have hsI : w1.heap.size ≤ wI.heap.size := Nat.le_trans (by (try simp only [World.size_alloc, World.size_drew]); omega) hbI.size)
      | (go_at_call 19
         refine (OwnTableL_any r ls es L B cl d _ (by repeat (with_reducible first | exact hL1 | refine Rd.to ?_ hbI | refine Rd.drew1 ?_ | refine Rd.alloc ?_ _)) (by repeat (with_reducible first | exact hE1 | refine Rd.to ?_ hbI | refine Rd.drew1 ?_ | refine Rd.alloc ?_ _)) (by omega) (by omega)).mono ?_
         rintro e wU ⟨vU, rfl, hvU, hlU, hbU⟩
         obtain ⟨LU, clU, BU, dU, rfl, _, _, _⟩ := id hvU
         simp only [tabV] at hvU hlU ⊢
         have kRU : Bk wU (w.heap.size + 1) #[.slice none 0 0, .int .i64 0, .slice none 0 0, .slice none 0 0] 28 := by repeat (with_reducible first | exact kR | refine Bk.to ?_ hbU | refine Bk.to ?_ hbI | refine Bk.drew ?_ | refine Bk.alloc ?_ _)
         obtain ⟨cRU, fRU, lRU⟩ := kRU.facts))
  all_goals
    have hBU : Below w.heap.size w wU := by repeat (with_reducible first | exact hB1 | refine bnext ?_ hbU | refine bnext ?_ hbI | refine below_drew ?_ | refine balloc ?_ _)
    have hrI : Rd wU 2 AI rs.length (flat2 .i64 rs) := (Rd.own hoI).to hbU
    obtain ⟨l4, l5⟩ := hlU _ _ _ _ _ _ _ rfl
    have hsp := spv_mk (c := cI) hrI hvU
    have hsl : SLoc w1.heap.size (.agg #[.slice AI rs.length cI, .int .i64 r, .slice LU ls.length clU, .slice BU es.length dU]) := SLoc.mk (fun b off h0 he => by have := hlI b off h0 he; simp only [World.size_drew] at this; omega) (fun b off h0 he => by have := l4 b off h0 he; omega) (fun b off h0 he => by have := l5 b off h0 he; omega)
    have kF := kRU.put4 (.slice AI rs.length cI) (.int .i64 r) (.slice LU ls.length clU) (.slice BU es.length dU)
    have hBF := below_put4 hBU (g := w.heap.size + 1) (by omega) (.slice AI rs.length cI) (.int .i64 r) (.slice LU ls.length clU) (.slice BU es.length dU)
    have hvF := spv_put4 hsp hsl (g := w.heap.size + 1) (by omega) (.slice AI rs.length cI) (.int .i64 r) (.slice LU ls.length clU) (.slice BU es.length dU)
    go_wp2_with fail
    exact bodyPost_ret (kF.res1 (P := Tryz.prog) rfl _ rfl (by kernel_rfl) (by kernel_rfl)) rfl ⟨_, rfl, hvF, hBF⟩

set_option maxHeartbeats 2000000 in
theorem SameSpace_eq (rs : List (Int × Int)) (r : Int) (ls : List Int) (es : List Nat) (v v2 : Value) (w : World) (hv : SpV w v (rs, r, ls, es)) (hv2 : SpV w v2 (rs, r, ls, es)) (hs : wsmall es) (hn : rs.length ≤ 1000) (hl : ls.length ≤ 1000) (hm : es.length ≤ 1000) :
    Calls Tryz.prog 9 #[v, v2] w fun e w' => e = .returned (.bool true) ∧ Below w.heap.size w w' := by
  obtain ⟨A, c, L, cl, B, d, rfl, hA, hLs, hB, hcc⟩ := hv
  obtain ⟨A2, c2, L2, cl2, B2, d2, rfl, hA2, hLs2, hB2, hcc2⟩ := hv2
  simp only at hA hLs hB hcc hA2 hLs2 hB2 hcc2
  unfold spcV
  simp only
  have k1 := (Bk.new w #[.slice A rs.length c, .int .i64 r, .slice L ls.length cl, .slice B es.length d] 28).alloc (.cells #[.slice A2 rs.length c2, .int .i64 r, .slice L2 ls.length cl2, .slice B2 es.length d2] 28)
  have k2 := Bk.new (w.alloc (.cells #[.slice A rs.length c, .int .i64 r, .slice L ls.length cl, .slice B es.length d] 28)) #[.slice A2 rs.length c2, .int .i64 r, .slice L2 ls.length cl2, .slice B2 es.length d2] 28
  rw [World.size_alloc] at k2
  have hB1 := balloc (balloc (Below.refl _ w) (.cells #[.slice A rs.length c, .int .i64 r, .slice L ls.length cl, .slice B es.length d] 28)) (.cells #[.slice A2 rs.length c2, .int .i64 r, .slice L2 ls.length cl2, .slice B2 es.length d2] 28)
  generalize hw1 : (w.alloc (.cells #[.slice A rs.length c, .int .i64 r, .slice L ls.length cl, .slice B es.length d] 28)).alloc (.cells #[.slice A2 rs.length c2, .int .i64 r, .slice L2 ls.length cl2, .slice B2 es.length d2] 28) = w1 at *
  obtain ⟨c1, f1, l1⟩ := k1.facts
  obtain ⟨c2', f2, l2⟩ := k2.facts
  have hT1 := tbv_of (r := r) (hLs.below hB1 (Nat.le_refl _)) (hB.below hB1 (Nat.le_refl _)) (d := d) hcc
  have hT2 := tbv_of (r := r) (hLs2.below hB1 (Nat.le_refl _)) (hB2.below hB1 (Nat.le_refl _)) (d := d2) hcc2
  have hSR := SameRanges_eq A A2 rs.length c c2 rs w1 (hA.below hB1 (Nat.le_refl _)) (hA2.below hB1 (Nat.le_refl _)) (by omega)
  go_enter Tryz.func9, Tryz.ntmps9
  go_wp2_with (first
    | (go_at_call 26; refine hSR.mono ?_; rintro e w2 ⟨rfl, hb2⟩; obtain ⟨c3, f3, l3⟩ := (k1.to hb2).facts; obtain ⟨c4, f4, l4⟩ := (k2.to hb2).facts)
    | (go_at_call 27; refine (SameTable_eq r ls es _ _ _ (hT1.to hb2) (hT2.to hb2) hs hl hm).mono ?_; rintro e w3 ⟨rfl, hb3⟩))
  go_ret
  exact ⟨rfl, bnext (bnext hB1 hb2) hb3⟩

theorem page5c_any (cow : Bool) (w : World) : Calls Tryz.prog 41 #[.bool cow] w fun e w' => e = .returned (.agg #[.int .i64 1, .int .i64 5, .bool (!cow), .bool cow, .bool false]) ∧ Below w.heap.size w w' := by
  cases cow
  all_goals
    go_enter Tryz.func41, Tryz.ntmps41
    go_wp2_with fail
  · have kR := Bk.new w #[.int .i64 1, .int .i64 5, .bool true, .bool false, .bool false] 57
    exact bodyPost_ret (kR.res1 (P := Tryz.prog) rfl _ rfl (by kernel_rfl) (by kernel_rfl)) rfl ⟨rfl, balloc (Below.refl _ _) _⟩
  · have kR := Bk.new w #[.int .i64 1, .int .i64 5, .bool false, .bool true, .bool false] 57
    exact bodyPost_ret (kR.res1 (P := Tryz.prog) rfl _ rfl (by kernel_rfl) (by kernel_rfl)) rfl ⟨rfl, balloc (Below.refl _ _) _⟩

set_option maxHeartbeats 1000000 in
theorem findsT_any (rs : List (Int × Int)) (r : Int) (ls : List Int) (es : List Nat) (v : Value) (page : Int) (wr : Bool) (count want : Int) (w : World) (hv : SpV w v (rs, r, ls, es)) (hn : rs.length ≤ 1000000) (hs : wsmall es) (hL : LayOK w) (hR : accR (rs, r, ls, es) page wr count = (want, 0)) :
    Calls Tryz.prog 17 #[v, .int .i64 page, .bool wr, .int .i64 count, .int .i64 want] w fun e w' => e = .returned (.bool true) ∧ Below w.heap.size w w' := by
  obtain ⟨A, c, L, cl, B, d, hve, hA, hLs, hB, hcc⟩ := id hv
  subst hve
  unfold spcV at hv ⊢
  simp only at hv ⊢
  have kS := Bk.new w #[.slice A rs.length c, .int .i64 r, .slice L ls.length cl, .slice B es.length d] 28
  have hB1 := balloc (Below.refl _ w) (.cells #[.slice A rs.length c, .int .i64 r, .slice L ls.length cl, .slice B es.length d] 28)
  generalize hw1 : w.alloc (.cells #[.slice A rs.length c, .int .i64 r, .slice L ls.length cl, .slice B es.length d] 28) = w1 at *
  have HA := Lib.hid (Access_any rs r ls es _ page wr count w1 (hv.to hB1) hn hs (hL.below hB1))
  rw [hR] at HA
  clear hR
  obtain ⟨cS, fS, lS⟩ := kS.facts
  go_enter Tryz.func17, Tryz.ntmps17
  go_wp2_with (go_at_call 42; refine HA.out.mono ?_; rintro e w2 ⟨rfl, hb2⟩)
  go_ret
  exact ⟨rfl, bnext hB1 hb2⟩

set_option maxHeartbeats 1000000 in
theorem light_any (rs : List (Int × Int)) (r : Int) (ls : List Int) (es : List Nat) (v : Value) (w : World) (hv : SpV w v (rs, r, ls, es)) :
    Calls Tryz.prog 4 #[v] w fun e w' => e = .returned (.bool (decide (rs.length ≤ 70 ∧ ls.length ≤ 10 ∧ es.length ≤ 70))) ∧ Below w.heap.size w w' := by
  obtain ⟨A, c, L, cl, B, d, rfl, hA, hLs, hB, hcc⟩ := hv
  unfold spcV
  simp only
  have kS := Bk.new w #[.slice A rs.length c, .int .i64 r, .slice L ls.length cl, .slice B es.length d] 28
  have hB1 := balloc (Below.refl _ w) (.cells #[.slice A rs.length c, .int .i64 r, .slice L ls.length cl, .slice B es.length d] 28)
  generalize hw1 : w.alloc (.cells #[.slice A rs.length c, .int .i64 r, .slice L ls.length cl, .slice B es.length d] 28) = w1 at *
  obtain ⟨cS, fS, lS⟩ := kS.facts
  obtain ⟨z, hz⟩ : ∃ z, z = decide (rs.length ≤ 70 ∧ ls.length ≤ 10 ∧ es.length ≤ 70) := ⟨_, rfl⟩
  rw [← hz]
  have HZ := Lib.hid hz
  clear hz hA hLs hB hcc
  have hcs : (¬ rs.length ≤ 70) ∨ (rs.length ≤ 70 ∧ ¬ ls.length ≤ 10) ∨ (rs.length ≤ 70 ∧ ls.length ≤ 10 ∧ ¬ es.length ≤ 70) ∨ (rs.length ≤ 70 ∧ ls.length ≤ 10 ∧ es.length ≤ 70) := by omega
  rcases hcs with h1 | ⟨h1, h2⟩ | ⟨h1, h2, h3⟩ | ⟨h1, h2, h3⟩
  · have HZ2 := Lib.hid (show z = false by rw [HZ.out]; simp; omega)
    have d1 : decide ((rs.length : Int) ≤ 70) = false := by simp; omega
    clear HZ h1
    go_enter Tryz.func4, Tryz.ntmps4
    go_wp2_with fail
    go_ret
    exact ⟨by rw [HZ2.out]; rfl, hB1⟩
  · have HZ2 := Lib.hid (show z = false by rw [HZ.out]; simp; omega)
    have d1 : decide ((rs.length : Int) ≤ 70) = true := by simp; omega
    have d2 : decide ((ls.length : Int) ≤ 10) = false := by simp; omega
    clear HZ h1 h2
    go_enter Tryz.func4, Tryz.ntmps4
    go_wp2_with fail
    go_ret
    exact ⟨by rw [HZ2.out]; rfl, hB1⟩
  · have HZ2 := Lib.hid (show z = false by rw [HZ.out]; simp; omega)
    have d1 : decide ((rs.length : Int) ≤ 70) = true := by simp; omega
    have d2 : decide ((ls.length : Int) ≤ 10) = true := by simp; omega
    have d3 : decide ((es.length : Int) ≤ 70) = false := by simp; omega
    clear HZ h1 h2 h3
    go_enter Tryz.func4, Tryz.ntmps4
    go_wp2_with fail
    go_ret
    exact ⟨by rw [HZ2.out]; rfl, hB1⟩
  · have HZ2 := Lib.hid (show z = true by rw [HZ.out]; simp; omega)
    have d1 : decide ((rs.length : Int) ≤ 70) = true := by simp; omega
    have d2 : decide ((ls.length : Int) ≤ 10) = true := by simp; omega
    have d3 : decide ((es.length : Int) ≤ 70) = true := by simp; omega
    clear HZ h1 h2 h3
    go_enter Tryz.func4, Tryz.ntmps4
    go_wp2_with fail
    go_ret
    exact ⟨by rw [HZ2.out]; rfl, hB1⟩
end Go.Proofs.YtpkgfkhaiifooaaGreatDoor
