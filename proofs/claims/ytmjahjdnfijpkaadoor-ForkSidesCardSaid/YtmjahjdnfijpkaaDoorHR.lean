/- Several texts in one. -/
import Derived.Test.YtmjahjdnfijpkaaDoorDrx
import Derived.Test.YtmjahjdnfijpkaaDoorHN
import Derived.Test.YtmjahjdnfijpkaaDoorFkD
import Derived.Deep.DeepCutAuto
import Derived.Deep.RegionHeld3
import Derived.Test.YtmjahjdnfijpkaaDoorHQ
import Derived.Test.YtmjahjdnfijpkaaDoorFkL
/- The reference of chapter 28: own, with rows of its own. -/
namespace Go.Proofs.YtmjahjdnfijpkaaDoor
open Go Go.Proofs Go.RowKit
set_option linter.unusedSimpArgs false
set_option linter.unusedVariables false
set_option maxRecDepth 100000

set_option maxHeartbeats 8000000 in
theorem rown28v_any (rs : List (Int × Int)) (r : Int) (ls : List Int) (es : List Nat) (v : Value) (w : World) (hv : SpV w v (rs, r, ls, es)) (hn : rs.length ≤ 1000000) (h8 : ls.length = 8) (h64 : es.length = 64) :
    Calls Tryd.prog 54 #[v] w fun e w' => ∃ AR cR gA cA gB cB, e = .returned (.agg #[.slice AR rs.length cR, .int .i64 r, .slice (some ⟨gA, 0, none⟩) 8 cA, .slice (some ⟨gB, 0, none⟩) 64 cB]) ∧ Rd w' 2 AR rs.length (flat2 .i64 rs) ∧ RowO w' 3 gA 8 cA (iw ls) ∧ RowO w' 55 gB 64 cB (uw es) ∧ gA ≠ gB ∧ w.heap.size ≤ gA ∧ w.heap.size ≤ gB ∧ (∀ b off, 0 < rs.length → AR = some ⟨b, off, none⟩ → w.heap.size ≤ b ∧ b ≠ gA ∧ b ≠ gB) ∧ Below w.heap.size w w' := by
  obtain ⟨A, c, L, cl, B, d, rfl, hA, hLs, hB, hcc⟩ := hv
  simp only at hA hLs hB hcc
  unfold spcV
  simp only
  rw [h8] at hLs ⊢
  rw [h64] at hB ⊢
  obtain ⟨q0, hq, hq0, hq1, hq2⟩ := info_parts infoRgK
  obtain ⟨i0, hi, hz0, hz1, hz2⟩ := info_parts infoInt
  obtain ⟨j0, hj, hy0, hy1, hy2⟩ := info_parts infoU64
  have kS := (Bk.new w #[.slice A rs.length c, .int .i64 r, .slice L 8 cl, .slice B 64 d] 28).alloc (.cells #[.slice none 0 0, .int .i64 0, .slice none 0 0, .slice none 0 0] 28)
  have kR := Bk.new (w.alloc (.cells #[.slice A rs.length c, .int .i64 r, .slice L 8 cl, .slice B 64 d] 28)) #[.slice none 0 0, .int .i64 0, .slice none 0 0, .slice none 0 0] 28
  simp only [World.size_alloc] at kR
  have hB1 := balloc (balloc (Below.refl _ w) (.cells #[.slice A rs.length c, .int .i64 r, .slice L 8 cl, .slice B 64 d] 28)) (.cells #[.slice none 0 0, .int .i64 0, .slice none 0 0, .slice none 0 0] 28)
  go_enter Tryd.func54, Tryd.ntmps54
  go_upto_region 1 with fail
  generalize (w.alloc (.cells #[.slice A rs.length c, .int .i64 r, .slice L 8 cl, .slice B 64 d] 28)).alloc (.cells #[.slice none 0 0, .int .i64 0, .slice none 0 0, .slice none 0 0] 28) = w1 at *
  have hA1 := hA.below hB1 (Nat.le_refl _)
  have hL1 := hLs.below hB1 (Nat.le_refl _)
  have hE1 := hB.below hB1 (Nat.le_refl _)
  have s1 := kS.cell 1
  have s2 := kS.cell 2
  have s3 := kS.cell 3
  simp at s1 s2 s3
  have hsR := kR.lt
  clear hA hLs hB
  go_cut [3] (fun p wx => ∃ q gI cI gU cU, p = .pointer (some ⟨q, 0, none⟩) ∧ w1.heap.size ≤ q ∧ Bk wx q #[.int .i64 r, .slice (some ⟨gI, 0, none⟩) 8 cI, .slice (some ⟨gU, 0, none⟩) 64 cU] 26 ∧ RowO wx 3 gI 8 cI (iw ls) ∧ RowO wx 55 gU 64 cU (uw es) ∧ gI ≠ gU ∧ w1.heap.size ≤ gI ∧ w1.heap.size ≤ gU ∧ Below w1.heap.size w1 wx)
  case first =>
    have hal : ∀ (W : World) (ev : Operand → Value) (o : Oper), o.op = Op.alloc 26 → (execOp ev o).run Tryd.prog W = .ok (.value (.pointer (some ⟨W.heap.size, 0, none⟩))) (W.alloc (.cells #[.int .i64 0, .slice none 0 0, .slice none 0 0] 26)) := fun W ev o ho => by unfold execOp; simp [ho, go_sem]
    have hbs3 : ∀ (W : World) (ev : Operand → Value) (o : Oper), o.op = Op.buildSlice 23 0 #[] → (execOp ev o).run Tryd.prog W = .ok (.value (.slice (some ⟨W.heap.size, 0, none⟩) 0 0)) (W.alloc (.cells #[] 3)) := fun W ev o ho => by unfold execOp; simp [ho, go_sem]
    have hbs8 : ∀ (W : World) (ev : Operand → Value) (o : Oper), o.op = Op.buildSlice 24 0 #[] → (execOp ev o).run Tryd.prog W = .ok (.value (.slice (some ⟨W.heap.size, 0, none⟩) 0 0)) (W.alloc (.cells #[] 55)) := fun W ev o ho => by unfold execOp; simp [ho, go_sem]
    have hRd_I : ∀ W, Below w1.heap.size w1 W → Rd W 1 L 8 (iw ls) := fun W h => hL1.below h (Nat.le_refl _)
    have hRd_U : ∀ W, Below w1.heap.size w1 W → Rd W 1 B 64 (uw es) := fun W h => hE1.below h (Nat.le_refl _)
    have hB := below_drew (Below.refl w1.heap.size w1)
    have kS9 := kS.drew
    have hsd : w.heap.size + 1 < w1.drew.heap.size := hsR
    generalize hw_d : w1.drew = wd at *
    refine wp_region_held_drew (S := fun w' => Bk w' w.heap.size #[.slice A rs.length c, .int .i64 r, .slice L 8 cl, .slice B 64 d] 28) (by kernel_rfl) (by first | exact kS9 | (rw [hw_d]; exact kS9)) (fun _ => ?_)
    try rw [hw_d]
    refine takeD 0 (some 4) (.pointer (some ⟨w.heap.size, 1, none⟩)) rfl rfl (by kernel_rfl) (by kernel_rfl) (by kernel_rfl) (fun _ _ _ h => h) (.inl ⟨rfl, fun w' hS => by go_simp⟩) kS9 ?_
    try simp only [Act.put, List.setIfInBounds_toArray, List.set_cons_zero, List.set_cons_succ]
    refine takeD 1 (some 5) (.pointer (some ⟨w.heap.size, 1, none⟩)) rfl rfl (by kernel_rfl) (by kernel_rfl) (by kernel_rfl) (fun _ _ _ h => h) (.inl ⟨rfl, fun w' hS => by go_simp⟩) kS9 ?_
    try simp only [Act.put, List.setIfInBounds_toArray, List.set_cons_zero, List.set_cons_succ]
    refine takeD 2 (some 6) (.int .i64 r) rfl rfl (by kernel_rfl) (by kernel_rfl) (by kernel_rfl) (fun _ _ _ h => h) (.inl ⟨rfl, fun w' hS => by have hc := (show Bk w' w.heap.size #[.slice A rs.length c, .int .i64 r, .slice L 8 cl, .slice B 64 d] 28 from hS).cell; go_simp⟩) kS9 ?_
    try simp only [Act.put, List.setIfInBounds_toArray, List.set_cons_zero, List.set_cons_succ]
    refine takeD 4 (some 8) (.pointer (some ⟨w.heap.size, 1, none⟩)) rfl rfl (by kernel_rfl) (by kernel_rfl) (by kernel_rfl) (fun _ _ _ h => h) (.inl ⟨rfl, fun w' hS => by go_simp⟩) kS9 ?_
    try simp only [Act.put, List.setIfInBounds_toArray, List.set_cons_zero, List.set_cons_succ]
    refine takeD 5 (some 9) (.pointer (some ⟨w.heap.size, 2, none⟩)) rfl rfl (by kernel_rfl) (by kernel_rfl) (by kernel_rfl) (fun _ _ _ h => h) (.inl ⟨rfl, fun w' hS => by go_simp⟩) kS9 ?_
    try simp only [Act.put, List.setIfInBounds_toArray, List.set_cons_zero, List.set_cons_succ]
    refine takeD 6 (some 10) (.slice L 8 cl) rfl rfl (by kernel_rfl) (by kernel_rfl) (by kernel_rfl) (fun _ _ _ h => h) (.inl ⟨rfl, fun w' hS => by have hc := (show Bk w' w.heap.size #[.slice A rs.length c, .int .i64 r, .slice L 8 cl, .slice B 64 d] 28 from hS).cell; go_simp⟩) kS9 ?_
    try simp only [Act.put, List.setIfInBounds_toArray, List.set_cons_zero, List.set_cons_succ]
    refine takeD 9 (some 13) (.pointer (some ⟨w.heap.size, 1, none⟩)) rfl rfl (by kernel_rfl) (by kernel_rfl) (by kernel_rfl) (fun _ _ _ h => h) (.inl ⟨rfl, fun w' hS => by go_simp⟩) kS9 ?_
    try simp only [Act.put, List.setIfInBounds_toArray, List.set_cons_zero, List.set_cons_succ]
    refine takeD 10 (some 14) (.pointer (some ⟨w.heap.size, 3, none⟩)) rfl rfl (by kernel_rfl) (by kernel_rfl) (by kernel_rfl) (fun _ _ _ h => h) (.inl ⟨rfl, fun w' hS => by go_simp⟩) kS9 ?_
    try simp only [Act.put, List.setIfInBounds_toArray, List.set_cons_zero, List.set_cons_succ]
    refine takeD 11 (some 15) (.slice B 64 d) rfl rfl (by kernel_rfl) (by kernel_rfl) (by kernel_rfl) (fun _ _ _ h => h) (.inl ⟨rfl, fun w' hS => by have hc := (show Bk w' w.heap.size #[.slice A rs.length c, .int .i64 r, .slice L 8 cl, .slice B 64 d] 28 from hS).cell; go_simp⟩) kS9 ?_
    try simp only [Act.put, List.setIfInBounds_toArray, List.set_cons_zero, List.set_cons_succ]
    refine wpAnyH_all (rs := [3, 8, 14]) (by kernel_rfl) (by simp) (fun i hiR => ?_)
    simp only [List.mem_cons, List.not_mem_nil, or_false] at hiR
    rcases hiR with rfl | rfl | rfl
    · skip
      refine valD 3 (some 7) rfl rfl rfl (hbs3 _ _ _ rfl) ⟨kS9.alloc _, ?_⟩
      replace kS9 := kS9.alloc (.cells #[] 3)
      have hz_wn1 := hB.size
      replace hB := hB.alloc (by omega) (.cells #[] 3)
      generalize hw_wn1 : wd.alloc (.cells #[] 3) = wn1 at *
      try simp only [Act.put, List.setIfInBounds_toArray, List.set_cons_zero, List.set_cons_succ]
      refine wpAnyH_all (rs := [7, 8, 14]) (by kernel_rfl) (by simp) (fun i hiR => ?_)
      simp only [List.mem_cons, List.not_mem_nil, or_false] at hiR
      rcases hiR with rfl | rfl | rfl
      · skip
        refine appD 7 (some 11) rfl rfl rfl (fun K' hK' => step_append_ownD rfl _ _ 23 rfl 3 i0 (.int .i64 0) 8 Tryd.underlying23 hi hz0 hz1 hz2 rfl _ rfl L 8 cl (iw ls) rfl (hRd_I _ hB) (oneCells_int _ _) (by simp only [maxLen]; omega) (by omega) (by omega) ?_)
        intro gI cI wa2 hrI hlI hcI hb_wa2
        refine hK' _ _ ⟨kS9.to hb_wa2, ?_⟩
        replace kS9 := kS9.to hb_wa2
        have hz_wa2 := hB.size
        replace hB := hB.trans (hb_wa2.mono (by omega))
        replace hlI := fun b off h0 e => And.intro (Nat.le_trans hz_wa2 (hlI b off h0 e).1) (hlI b off h0 e).2
        try simp only [Act.put, List.setIfInBounds_toArray, List.set_cons_zero, List.set_cons_succ]
        refine wpAnyH_all (rs := [8, 14]) (by kernel_rfl) (by simp) (fun i hiR => ?_)
        simp only [List.mem_cons, List.not_mem_nil, or_false] at hiR
        rcases hiR with rfl | rfl
        · skip
          refine valD 8 (some 12) rfl rfl rfl (hbs8 _ _ _ rfl) ⟨kS9.alloc _, ?_⟩
          replace hlI := fun b off h0 e => And.intro (hlI b off h0 e).1 (Nat.lt_of_lt_of_le (hlI b off h0 e).2 (show wa2.heap.size ≤ (wa2.alloc (.cells #[] 55)).heap.size by rw [World.size_alloc]; omega))
          replace kS9 := kS9.alloc (.cells #[] 55)
          replace hrI := hrI.alloc (.cells #[] 55)
          have hz_wn3 := hB.size
          replace hB := hB.alloc (by omega) (.cells #[] 55)
          generalize hw_wn3 : wa2.alloc (.cells #[] 55) = wn3 at *
          try simp only [Act.put, List.setIfInBounds_toArray, List.set_cons_zero, List.set_cons_succ]
          refine wpAnyH_all (rs := [12, 14]) (by kernel_rfl) (by simp) (fun i hiR => ?_)
          simp only [List.mem_cons, List.not_mem_nil, or_false] at hiR
          rcases hiR with rfl | rfl
          · skip
            refine appD 12 (some 16) rfl rfl rfl (fun K' hK' => step_append_ownD rfl _ _ 24 rfl 55 j0 (.int .u64 0) 8 Tryd.underlying24 hj hy0 hy1 hy2 rfl _ rfl B 64 d (uw es) rfl (hRd_U _ hB) (oneCells_uw _) (by simp only [maxLen]; omega) (by omega) (by omega) ?_)
            intro gU cU wa4 hrU hlU hcU hb_wa4
            refine hK' _ _ ⟨kS9.to hb_wa4, ?_⟩
            have hdIU := fun b off h0 e b' off' h0' e' => Nat.ne_of_lt (Nat.lt_of_lt_of_le (hlI b off h0 e).2 (hlU b' off' h0' e').1)
            replace hlI := fun b off h0 e => And.intro (hlI b off h0 e).1 (Nat.lt_of_lt_of_le (hlI b off h0 e).2 hb_wa4.size)
            replace kS9 := kS9.to hb_wa4
            replace hrI := hrI.to hb_wa4
            have hz_wa4 := hB.size
            replace hB := hB.trans (hb_wa4.mono (by omega))
            replace hlU := fun b off h0 e => And.intro (Nat.le_trans hz_wa4 (hlU b off h0 e).1) (hlU b off h0 e).2
            try simp only [Act.put, List.setIfInBounds_toArray, List.set_cons_zero, List.set_cons_succ]
            refine takeD 13 (some 17) (.agg #[.int .i64 r, .slice (some ⟨gI, 0, none⟩) 8 cI, .slice (some ⟨gU, 0, none⟩) 64 cU]) rfl rfl (by kernel_rfl) (by kernel_rfl) (by kernel_rfl) (fun _ _ _ h => h) (.inl ⟨rfl, fun w' hS => by go_simp⟩) kS9 ?_
            try simp only [Act.put, List.setIfInBounds_toArray, List.set_cons_zero, List.set_cons_succ]
            refine wpAnyH_all (rs := [14]) (by kernel_rfl) (by simp) (fun i hiR => ?_)
            obtain rfl : i = 14 := by simpa using hiR
            refine valD 14 (some 3) rfl rfl rfl (hal _ _ _ rfl) ⟨kS9.alloc _, ?_⟩
            have kT := Bk.new wa4 #[.int .i64 0, .slice none 0 0, .slice none 0 0] 26
            have hneI := fun b off h0 e => Nat.ne_of_lt (hlI b off h0 e).2
            have hneU := fun b off h0 e => Nat.ne_of_lt (hlU b off h0 e).2
            replace hlI := fun b off h0 e => And.intro (hlI b off h0 e).1 (Nat.lt_of_lt_of_le (hlI b off h0 e).2 (show wa4.heap.size ≤ (wa4.alloc (.cells #[.int .i64 0, .slice none 0 0, .slice none 0 0] 26)).heap.size by rw [World.size_alloc]; omega))
            replace hlU := fun b off h0 e => And.intro (hlU b off h0 e).1 (Nat.lt_of_lt_of_le (hlU b off h0 e).2 (show wa4.heap.size ≤ (wa4.alloc (.cells #[.int .i64 0, .slice none 0 0, .slice none 0 0] 26)).heap.size by rw [World.size_alloc]; omega))
            replace kS9 := kS9.alloc (.cells #[.int .i64 0, .slice none 0 0, .slice none 0 0] 26)
            replace hrI := hrI.alloc (.cells #[.int .i64 0, .slice none 0 0, .slice none 0 0] 26)
            replace hrU := hrU.alloc (.cells #[.int .i64 0, .slice none 0 0, .slice none 0 0] 26)
            have hz_wn5 := hB.size
            replace hB := hB.alloc (by omega) (.cells #[.int .i64 0, .slice none 0 0, .slice none 0 0] 26)
            generalize hw_wn5 : wa4.alloc (.cells #[.int .i64 0, .slice none 0 0, .slice none 0 0] 26) = wn5 at *
            try simp only [Act.put, List.setIfInBounds_toArray, List.set_cons_zero, List.set_cons_succ]
            refine wpAnyH_all (rs := [15]) (by kernel_rfl) (by simp) (fun i hiR => ?_)
            obtain rfl : i = 15 := by simpa using hiR
            have kN := kT.row #[.int .i64 r, .slice (some ⟨gI, 0, none⟩) 8 cI, .slice (some ⟨gU, 0, none⟩) 64 cU]
            have kS2 := kS9.rowfar (show w.heap.size ≠ wa4.heap.size by omega) #[.int .i64 r, .slice (some ⟨gI, 0, none⟩) 8 cI, .slice (some ⟨gU, 0, none⟩) 64 cU]
            have hBn := below_row hB (show w1.heap.size ≤ wa4.heap.size by omega) #[.int .i64 r, .slice (some ⟨gI, 0, none⟩) 8 cI, .slice (some ⟨gU, 0, none⟩) 64 cU]
            have nI := hrI.rowfar (q := wa4.heap.size) (hneI gI 0 (by omega) rfl) #[.int .i64 r, .slice (some ⟨gI, 0, none⟩) 8 cI, .slice (some ⟨gU, 0, none⟩) 64 cU]
            have nU := hrU.rowfar (q := wa4.heap.size) (hneU gU 0 (by omega) rfl) #[.int .i64 r, .slice (some ⟨gI, 0, none⟩) 8 cI, .slice (some ⟨gU, 0, none⟩) 64 cU]
            refine storeD 15 rfl rfl rfl 26 _ _ rfl (wa4.heap.size) #[.int .i64 r, .slice (some ⟨gI, 0, none⟩) 8 cI, .slice (some ⟨gU, 0, none⟩) 64 cU] rfl rfl 26 _ kT (by kernel_rfl) rfl (all_oneCell_toArray (fun v hv => by simp at hv; rcases hv with rfl | rfl | rfl <;> rfl)) ⟨kS2, ?_⟩
            generalize World.setRow wn5 (wa4.heap.size) #[.int .i64 r, .slice (some ⟨gI, 0, none⟩) 8 cI, .slice (some ⟨gU, 0, none⟩) 64 cU] = wz6 at *
            try simp only [Act.put, List.setIfInBounds_toArray, List.set_cons_zero, List.set_cons_succ]
            refine wpAnyH_done (by kernel_rfl) ?_ _
            try go_frame
            go_wp2_with fail
            go_meet
            exact ⟨_, _, _, _, _, rfl, by omega, kN, nI, nU, hdIU gI 0 (by omega) rfl gU 0 (by omega) rfl, (hlI gI 0 (by omega) rfl).1, (hlU gU 0 (by omega) rfl).1, hBn⟩
          · skip
            refine valD 14 (some 3) rfl rfl rfl (hal _ _ _ rfl) ⟨kS9.alloc _, ?_⟩
            have kT := Bk.new wn3 #[.int .i64 0, .slice none 0 0, .slice none 0 0] 26
            have hneI := fun b off h0 e => Nat.ne_of_lt (hlI b off h0 e).2
            replace hlI := fun b off h0 e => And.intro (hlI b off h0 e).1 (Nat.lt_of_lt_of_le (hlI b off h0 e).2 (show wn3.heap.size ≤ (wn3.alloc (.cells #[.int .i64 0, .slice none 0 0, .slice none 0 0] 26)).heap.size by rw [World.size_alloc]; omega))
            replace kS9 := kS9.alloc (.cells #[.int .i64 0, .slice none 0 0, .slice none 0 0] 26)
            replace hrI := hrI.alloc (.cells #[.int .i64 0, .slice none 0 0, .slice none 0 0] 26)
            have hz_wn7 := hB.size
            replace hB := hB.alloc (by omega) (.cells #[.int .i64 0, .slice none 0 0, .slice none 0 0] 26)
            generalize hw_wn7 : wn3.alloc (.cells #[.int .i64 0, .slice none 0 0, .slice none 0 0] 26) = wn7 at *
            try simp only [Act.put, List.setIfInBounds_toArray, List.set_cons_zero, List.set_cons_succ]
            refine wpAnyH_all (rs := [12]) (by kernel_rfl) (by simp) (fun i hiR => ?_)
            obtain rfl : i = 12 := by simpa using hiR
            have hTq := kT.lt
            refine appD 12 (some 16) rfl rfl rfl (fun K' hK' => step_append_ownD rfl _ _ 24 rfl 55 j0 (.int .u64 0) 8 Tryd.underlying24 hj hy0 hy1 hy2 rfl _ rfl B 64 d (uw es) rfl (hRd_U _ hB) (oneCells_uw _) (by simp only [maxLen]; omega) (by omega) (by omega) ?_)
            intro gU cU wa8 hrU hlU hcU hb_wa8
            refine hK' _ _ ⟨kS9.to hb_wa8, ?_⟩
            have hdIU := fun b off h0 e b' off' h0' e' => Nat.ne_of_lt (Nat.lt_of_lt_of_le (hlI b off h0 e).2 (hlU b' off' h0' e').1)
            have hneU := fun b off h0 e => (Nat.ne_of_lt (Nat.lt_of_lt_of_le hTq (hlU b off h0 e).1)).symm
            clear hTq
            replace hlI := fun b off h0 e => And.intro (hlI b off h0 e).1 (Nat.lt_of_lt_of_le (hlI b off h0 e).2 hb_wa8.size)
            replace kS9 := kS9.to hb_wa8
            replace kT := kT.to hb_wa8
            replace hrI := hrI.to hb_wa8
            have hz_wa8 := hB.size
            replace hB := hB.trans (hb_wa8.mono (by omega))
            replace hlU := fun b off h0 e => And.intro (Nat.le_trans hz_wa8 (hlU b off h0 e).1) (hlU b off h0 e).2
            try simp only [Act.put, List.setIfInBounds_toArray, List.set_cons_zero, List.set_cons_succ]
            refine takeD 13 (some 17) (.agg #[.int .i64 r, .slice (some ⟨gI, 0, none⟩) 8 cI, .slice (some ⟨gU, 0, none⟩) 64 cU]) rfl rfl (by kernel_rfl) (by kernel_rfl) (by kernel_rfl) (fun _ _ _ h => h) (.inl ⟨rfl, fun w' hS => by go_simp⟩) kS9 ?_
            try simp only [Act.put, List.setIfInBounds_toArray, List.set_cons_zero, List.set_cons_succ]
            refine wpAnyH_all (rs := [15]) (by kernel_rfl) (by simp) (fun i hiR => ?_)
            obtain rfl : i = 15 := by simpa using hiR
            have kN := kT.row #[.int .i64 r, .slice (some ⟨gI, 0, none⟩) 8 cI, .slice (some ⟨gU, 0, none⟩) 64 cU]
            have kS2 := kS9.rowfar (show w.heap.size ≠ wn3.heap.size by omega) #[.int .i64 r, .slice (some ⟨gI, 0, none⟩) 8 cI, .slice (some ⟨gU, 0, none⟩) 64 cU]
            have hBn := below_row hB (show w1.heap.size ≤ wn3.heap.size by omega) #[.int .i64 r, .slice (some ⟨gI, 0, none⟩) 8 cI, .slice (some ⟨gU, 0, none⟩) 64 cU]
            have nI := hrI.rowfar (q := wn3.heap.size) (hneI gI 0 (by omega) rfl) #[.int .i64 r, .slice (some ⟨gI, 0, none⟩) 8 cI, .slice (some ⟨gU, 0, none⟩) 64 cU]
            have nU := hrU.rowfar (q := wn3.heap.size) (hneU gU 0 (by omega) rfl) #[.int .i64 r, .slice (some ⟨gI, 0, none⟩) 8 cI, .slice (some ⟨gU, 0, none⟩) 64 cU]
            refine storeD 15 rfl rfl rfl 26 _ _ rfl (wn3.heap.size) #[.int .i64 r, .slice (some ⟨gI, 0, none⟩) 8 cI, .slice (some ⟨gU, 0, none⟩) 64 cU] rfl rfl 26 _ kT (by kernel_rfl) rfl (all_oneCell_toArray (fun v hv => by simp at hv; rcases hv with rfl | rfl | rfl <;> rfl)) ⟨kS2, ?_⟩
            generalize World.setRow wa8 (wn3.heap.size) #[.int .i64 r, .slice (some ⟨gI, 0, none⟩) 8 cI, .slice (some ⟨gU, 0, none⟩) 64 cU] = wz9 at *
            try simp only [Act.put, List.setIfInBounds_toArray, List.set_cons_zero, List.set_cons_succ]
            refine wpAnyH_done (by kernel_rfl) ?_ _
            try go_frame
            go_wp2_with fail
            go_meet
            exact ⟨_, _, _, _, _, rfl, by omega, kN, nI, nU, hdIU gI 0 (by omega) rfl gU 0 (by omega) rfl, (hlI gI 0 (by omega) rfl).1, (hlU gU 0 (by omega) rfl).1, hBn⟩
        · skip
          refine valD 14 (some 3) rfl rfl rfl (hal _ _ _ rfl) ⟨kS9.alloc _, ?_⟩
          have kT := Bk.new wa2 #[.int .i64 0, .slice none 0 0, .slice none 0 0] 26
          have hneI := fun b off h0 e => Nat.ne_of_lt (hlI b off h0 e).2
          replace hlI := fun b off h0 e => And.intro (hlI b off h0 e).1 (Nat.lt_of_lt_of_le (hlI b off h0 e).2 (show wa2.heap.size ≤ (wa2.alloc (.cells #[.int .i64 0, .slice none 0 0, .slice none 0 0] 26)).heap.size by rw [World.size_alloc]; omega))
          replace kS9 := kS9.alloc (.cells #[.int .i64 0, .slice none 0 0, .slice none 0 0] 26)
          replace hrI := hrI.alloc (.cells #[.int .i64 0, .slice none 0 0, .slice none 0 0] 26)
          have hz_wn10 := hB.size
          replace hB := hB.alloc (by omega) (.cells #[.int .i64 0, .slice none 0 0, .slice none 0 0] 26)
          generalize hw_wn10 : wa2.alloc (.cells #[.int .i64 0, .slice none 0 0, .slice none 0 0] 26) = wn10 at *
          try simp only [Act.put, List.setIfInBounds_toArray, List.set_cons_zero, List.set_cons_succ]
          refine wpAnyH_all (rs := [8]) (by kernel_rfl) (by simp) (fun i hiR => ?_)
          obtain rfl : i = 8 := by simpa using hiR
          refine valD 8 (some 12) rfl rfl rfl (hbs8 _ _ _ rfl) ⟨kS9.alloc _, ?_⟩
          replace hlI := fun b off h0 e => And.intro (hlI b off h0 e).1 (Nat.lt_of_lt_of_le (hlI b off h0 e).2 (show wn10.heap.size ≤ (wn10.alloc (.cells #[] 55)).heap.size by rw [World.size_alloc]; omega))
          replace kS9 := kS9.alloc (.cells #[] 55)
          replace kT := kT.alloc (.cells #[] 55)
          replace hrI := hrI.alloc (.cells #[] 55)
          have hz_wn11 := hB.size
          replace hB := hB.alloc (by omega) (.cells #[] 55)
          generalize hw_wn11 : wn10.alloc (.cells #[] 55) = wn11 at *
          try simp only [Act.put, List.setIfInBounds_toArray, List.set_cons_zero, List.set_cons_succ]
          refine wpAnyH_all (rs := [12]) (by kernel_rfl) (by simp) (fun i hiR => ?_)
          obtain rfl : i = 12 := by simpa using hiR
          have hTq := kT.lt
          refine appD 12 (some 16) rfl rfl rfl (fun K' hK' => step_append_ownD rfl _ _ 24 rfl 55 j0 (.int .u64 0) 8 Tryd.underlying24 hj hy0 hy1 hy2 rfl _ rfl B 64 d (uw es) rfl (hRd_U _ hB) (oneCells_uw _) (by simp only [maxLen]; omega) (by omega) (by omega) ?_)
          intro gU cU wa12 hrU hlU hcU hb_wa12
          refine hK' _ _ ⟨kS9.to hb_wa12, ?_⟩
          have hdIU := fun b off h0 e b' off' h0' e' => Nat.ne_of_lt (Nat.lt_of_lt_of_le (hlI b off h0 e).2 (hlU b' off' h0' e').1)
          have hneU := fun b off h0 e => (Nat.ne_of_lt (Nat.lt_of_lt_of_le hTq (hlU b off h0 e).1)).symm
          clear hTq
          replace hlI := fun b off h0 e => And.intro (hlI b off h0 e).1 (Nat.lt_of_lt_of_le (hlI b off h0 e).2 hb_wa12.size)
          replace kS9 := kS9.to hb_wa12
          replace kT := kT.to hb_wa12
          replace hrI := hrI.to hb_wa12
          have hz_wa12 := hB.size
          replace hB := hB.trans (hb_wa12.mono (by omega))
          replace hlU := fun b off h0 e => And.intro (Nat.le_trans hz_wa12 (hlU b off h0 e).1) (hlU b off h0 e).2
          try simp only [Act.put, List.setIfInBounds_toArray, List.set_cons_zero, List.set_cons_succ]
          refine takeD 13 (some 17) (.agg #[.int .i64 r, .slice (some ⟨gI, 0, none⟩) 8 cI, .slice (some ⟨gU, 0, none⟩) 64 cU]) rfl rfl (by kernel_rfl) (by kernel_rfl) (by kernel_rfl) (fun _ _ _ h => h) (.inl ⟨rfl, fun w' hS => by go_simp⟩) kS9 ?_
          try simp only [Act.put, List.setIfInBounds_toArray, List.set_cons_zero, List.set_cons_succ]
          refine wpAnyH_all (rs := [15]) (by kernel_rfl) (by simp) (fun i hiR => ?_)
          obtain rfl : i = 15 := by simpa using hiR
          have kN := kT.row #[.int .i64 r, .slice (some ⟨gI, 0, none⟩) 8 cI, .slice (some ⟨gU, 0, none⟩) 64 cU]
          have kS2 := kS9.rowfar (show w.heap.size ≠ wa2.heap.size by omega) #[.int .i64 r, .slice (some ⟨gI, 0, none⟩) 8 cI, .slice (some ⟨gU, 0, none⟩) 64 cU]
          have hBn := below_row hB (show w1.heap.size ≤ wa2.heap.size by omega) #[.int .i64 r, .slice (some ⟨gI, 0, none⟩) 8 cI, .slice (some ⟨gU, 0, none⟩) 64 cU]
          have nI := hrI.rowfar (q := wa2.heap.size) (hneI gI 0 (by omega) rfl) #[.int .i64 r, .slice (some ⟨gI, 0, none⟩) 8 cI, .slice (some ⟨gU, 0, none⟩) 64 cU]
          have nU := hrU.rowfar (q := wa2.heap.size) (hneU gU 0 (by omega) rfl) #[.int .i64 r, .slice (some ⟨gI, 0, none⟩) 8 cI, .slice (some ⟨gU, 0, none⟩) 64 cU]
          refine storeD 15 rfl rfl rfl 26 _ _ rfl (wa2.heap.size) #[.int .i64 r, .slice (some ⟨gI, 0, none⟩) 8 cI, .slice (some ⟨gU, 0, none⟩) 64 cU] rfl rfl 26 _ kT (by kernel_rfl) rfl (all_oneCell_toArray (fun v hv => by simp at hv; rcases hv with rfl | rfl | rfl <;> rfl)) ⟨kS2, ?_⟩
          generalize World.setRow wa12 (wa2.heap.size) #[.int .i64 r, .slice (some ⟨gI, 0, none⟩) 8 cI, .slice (some ⟨gU, 0, none⟩) 64 cU] = wz13 at *
          try simp only [Act.put, List.setIfInBounds_toArray, List.set_cons_zero, List.set_cons_succ]
          refine wpAnyH_done (by kernel_rfl) ?_ _
          try go_frame
          go_wp2_with fail
          go_meet
          exact ⟨_, _, _, _, _, rfl, by omega, kN, nI, nU, hdIU gI 0 (by omega) rfl gU 0 (by omega) rfl, (hlI gI 0 (by omega) rfl).1, (hlU gU 0 (by omega) rfl).1, hBn⟩
      · skip
        refine valD 8 (some 12) rfl rfl rfl (hbs8 _ _ _ rfl) ⟨kS9.alloc _, ?_⟩
        replace kS9 := kS9.alloc (.cells #[] 55)
        have hz_wn14 := hB.size
        replace hB := hB.alloc (by omega) (.cells #[] 55)
        generalize hw_wn14 : wn1.alloc (.cells #[] 55) = wn14 at *
        try simp only [Act.put, List.setIfInBounds_toArray, List.set_cons_zero, List.set_cons_succ]
        refine wpAnyH_all (rs := [7, 14]) (by kernel_rfl) (by simp) (fun i hiR => ?_)
        simp only [List.mem_cons, List.not_mem_nil, or_false] at hiR
        rcases hiR with rfl | rfl
        · skip
          refine appD 7 (some 11) rfl rfl rfl (fun K' hK' => step_append_ownD rfl _ _ 23 rfl 3 i0 (.int .i64 0) 8 Tryd.underlying23 hi hz0 hz1 hz2 rfl _ rfl L 8 cl (iw ls) rfl (hRd_I _ hB) (oneCells_int _ _) (by simp only [maxLen]; omega) (by omega) (by omega) ?_)
          intro gI cI wa15 hrI hlI hcI hb_wa15
          refine hK' _ _ ⟨kS9.to hb_wa15, ?_⟩
          replace kS9 := kS9.to hb_wa15
          have hz_wa15 := hB.size
          replace hB := hB.trans (hb_wa15.mono (by omega))
          replace hlI := fun b off h0 e => And.intro (Nat.le_trans hz_wa15 (hlI b off h0 e).1) (hlI b off h0 e).2
          try simp only [Act.put, List.setIfInBounds_toArray, List.set_cons_zero, List.set_cons_succ]
          refine wpAnyH_all (rs := [12, 14]) (by kernel_rfl) (by simp) (fun i hiR => ?_)
          simp only [List.mem_cons, List.not_mem_nil, or_false] at hiR
          rcases hiR with rfl | rfl
          · skip
            refine appD 12 (some 16) rfl rfl rfl (fun K' hK' => step_append_ownD rfl _ _ 24 rfl 55 j0 (.int .u64 0) 8 Tryd.underlying24 hj hy0 hy1 hy2 rfl _ rfl B 64 d (uw es) rfl (hRd_U _ hB) (oneCells_uw _) (by simp only [maxLen]; omega) (by omega) (by omega) ?_)
            intro gU cU wa16 hrU hlU hcU hb_wa16
            refine hK' _ _ ⟨kS9.to hb_wa16, ?_⟩
            have hdIU := fun b off h0 e b' off' h0' e' => Nat.ne_of_lt (Nat.lt_of_lt_of_le (hlI b off h0 e).2 (hlU b' off' h0' e').1)
            replace hlI := fun b off h0 e => And.intro (hlI b off h0 e).1 (Nat.lt_of_lt_of_le (hlI b off h0 e).2 hb_wa16.size)
            replace kS9 := kS9.to hb_wa16
            replace hrI := hrI.to hb_wa16
            have hz_wa16 := hB.size
            replace hB := hB.trans (hb_wa16.mono (by omega))
            replace hlU := fun b off h0 e => And.intro (Nat.le_trans hz_wa16 (hlU b off h0 e).1) (hlU b off h0 e).2
            try simp only [Act.put, List.setIfInBounds_toArray, List.set_cons_zero, List.set_cons_succ]
            refine takeD 13 (some 17) (.agg #[.int .i64 r, .slice (some ⟨gI, 0, none⟩) 8 cI, .slice (some ⟨gU, 0, none⟩) 64 cU]) rfl rfl (by kernel_rfl) (by kernel_rfl) (by kernel_rfl) (fun _ _ _ h => h) (.inl ⟨rfl, fun w' hS => by go_simp⟩) kS9 ?_
            try simp only [Act.put, List.setIfInBounds_toArray, List.set_cons_zero, List.set_cons_succ]
            refine wpAnyH_all (rs := [14]) (by kernel_rfl) (by simp) (fun i hiR => ?_)
            obtain rfl : i = 14 := by simpa using hiR
            refine valD 14 (some 3) rfl rfl rfl (hal _ _ _ rfl) ⟨kS9.alloc _, ?_⟩
            have kT := Bk.new wa16 #[.int .i64 0, .slice none 0 0, .slice none 0 0] 26
            have hneI := fun b off h0 e => Nat.ne_of_lt (hlI b off h0 e).2
            have hneU := fun b off h0 e => Nat.ne_of_lt (hlU b off h0 e).2
            replace hlI := fun b off h0 e => And.intro (hlI b off h0 e).1 (Nat.lt_of_lt_of_le (hlI b off h0 e).2 (show wa16.heap.size ≤ (wa16.alloc (.cells #[.int .i64 0, .slice none 0 0, .slice none 0 0] 26)).heap.size by rw [World.size_alloc]; omega))
            replace hlU := fun b off h0 e => And.intro (hlU b off h0 e).1 (Nat.lt_of_lt_of_le (hlU b off h0 e).2 (show wa16.heap.size ≤ (wa16.alloc (.cells #[.int .i64 0, .slice none 0 0, .slice none 0 0] 26)).heap.size by rw [World.size_alloc]; omega))
            replace kS9 := kS9.alloc (.cells #[.int .i64 0, .slice none 0 0, .slice none 0 0] 26)
            replace hrI := hrI.alloc (.cells #[.int .i64 0, .slice none 0 0, .slice none 0 0] 26)
            replace hrU := hrU.alloc (.cells #[.int .i64 0, .slice none 0 0, .slice none 0 0] 26)
            have hz_wn17 := hB.size
            replace hB := hB.alloc (by omega) (.cells #[.int .i64 0, .slice none 0 0, .slice none 0 0] 26)
            generalize hw_wn17 : wa16.alloc (.cells #[.int .i64 0, .slice none 0 0, .slice none 0 0] 26) = wn17 at *
            try simp only [Act.put, List.setIfInBounds_toArray, List.set_cons_zero, List.set_cons_succ]
            refine wpAnyH_all (rs := [15]) (by kernel_rfl) (by simp) (fun i hiR => ?_)
            obtain rfl : i = 15 := by simpa using hiR
            have kN := kT.row #[.int .i64 r, .slice (some ⟨gI, 0, none⟩) 8 cI, .slice (some ⟨gU, 0, none⟩) 64 cU]
            have kS2 := kS9.rowfar (show w.heap.size ≠ wa16.heap.size by omega) #[.int .i64 r, .slice (some ⟨gI, 0, none⟩) 8 cI, .slice (some ⟨gU, 0, none⟩) 64 cU]
            have hBn := below_row hB (show w1.heap.size ≤ wa16.heap.size by omega) #[.int .i64 r, .slice (some ⟨gI, 0, none⟩) 8 cI, .slice (some ⟨gU, 0, none⟩) 64 cU]
            have nI := hrI.rowfar (q := wa16.heap.size) (hneI gI 0 (by omega) rfl) #[.int .i64 r, .slice (some ⟨gI, 0, none⟩) 8 cI, .slice (some ⟨gU, 0, none⟩) 64 cU]
            have nU := hrU.rowfar (q := wa16.heap.size) (hneU gU 0 (by omega) rfl) #[.int .i64 r, .slice (some ⟨gI, 0, none⟩) 8 cI, .slice (some ⟨gU, 0, none⟩) 64 cU]
            refine storeD 15 rfl rfl rfl 26 _ _ rfl (wa16.heap.size) #[.int .i64 r, .slice (some ⟨gI, 0, none⟩) 8 cI, .slice (some ⟨gU, 0, none⟩) 64 cU] rfl rfl 26 _ kT (by kernel_rfl) rfl (all_oneCell_toArray (fun v hv => by simp at hv; rcases hv with rfl | rfl | rfl <;> rfl)) ⟨kS2, ?_⟩
            generalize World.setRow wn17 (wa16.heap.size) #[.int .i64 r, .slice (some ⟨gI, 0, none⟩) 8 cI, .slice (some ⟨gU, 0, none⟩) 64 cU] = wz18 at *
            try simp only [Act.put, List.setIfInBounds_toArray, List.set_cons_zero, List.set_cons_succ]
            refine wpAnyH_done (by kernel_rfl) ?_ _
            try go_frame
            go_wp2_with fail
            go_meet
            exact ⟨_, _, _, _, _, rfl, by omega, kN, nI, nU, hdIU gI 0 (by omega) rfl gU 0 (by omega) rfl, (hlI gI 0 (by omega) rfl).1, (hlU gU 0 (by omega) rfl).1, hBn⟩
          · skip
            refine valD 14 (some 3) rfl rfl rfl (hal _ _ _ rfl) ⟨kS9.alloc _, ?_⟩
            have kT := Bk.new wa15 #[.int .i64 0, .slice none 0 0, .slice none 0 0] 26
            have hneI := fun b off h0 e => Nat.ne_of_lt (hlI b off h0 e).2
            replace hlI := fun b off h0 e => And.intro (hlI b off h0 e).1 (Nat.lt_of_lt_of_le (hlI b off h0 e).2 (show wa15.heap.size ≤ (wa15.alloc (.cells #[.int .i64 0, .slice none 0 0, .slice none 0 0] 26)).heap.size by rw [World.size_alloc]; omega))
            replace kS9 := kS9.alloc (.cells #[.int .i64 0, .slice none 0 0, .slice none 0 0] 26)
            replace hrI := hrI.alloc (.cells #[.int .i64 0, .slice none 0 0, .slice none 0 0] 26)
            have hz_wn19 := hB.size
            replace hB := hB.alloc (by omega) (.cells #[.int .i64 0, .slice none 0 0, .slice none 0 0] 26)
            generalize hw_wn19 : wa15.alloc (.cells #[.int .i64 0, .slice none 0 0, .slice none 0 0] 26) = wn19 at *
            try simp only [Act.put, List.setIfInBounds_toArray, List.set_cons_zero, List.set_cons_succ]
            refine wpAnyH_all (rs := [12]) (by kernel_rfl) (by simp) (fun i hiR => ?_)
            obtain rfl : i = 12 := by simpa using hiR
            have hTq := kT.lt
            refine appD 12 (some 16) rfl rfl rfl (fun K' hK' => step_append_ownD rfl _ _ 24 rfl 55 j0 (.int .u64 0) 8 Tryd.underlying24 hj hy0 hy1 hy2 rfl _ rfl B 64 d (uw es) rfl (hRd_U _ hB) (oneCells_uw _) (by simp only [maxLen]; omega) (by omega) (by omega) ?_)
            intro gU cU wa20 hrU hlU hcU hb_wa20
            refine hK' _ _ ⟨kS9.to hb_wa20, ?_⟩
            have hdIU := fun b off h0 e b' off' h0' e' => Nat.ne_of_lt (Nat.lt_of_lt_of_le (hlI b off h0 e).2 (hlU b' off' h0' e').1)
            have hneU := fun b off h0 e => (Nat.ne_of_lt (Nat.lt_of_lt_of_le hTq (hlU b off h0 e).1)).symm
            clear hTq
            replace hlI := fun b off h0 e => And.intro (hlI b off h0 e).1 (Nat.lt_of_lt_of_le (hlI b off h0 e).2 hb_wa20.size)
            replace kS9 := kS9.to hb_wa20
            replace kT := kT.to hb_wa20
            replace hrI := hrI.to hb_wa20
            have hz_wa20 := hB.size
            replace hB := hB.trans (hb_wa20.mono (by omega))
            replace hlU := fun b off h0 e => And.intro (Nat.le_trans hz_wa20 (hlU b off h0 e).1) (hlU b off h0 e).2
            try simp only [Act.put, List.setIfInBounds_toArray, List.set_cons_zero, List.set_cons_succ]
            refine takeD 13 (some 17) (.agg #[.int .i64 r, .slice (some ⟨gI, 0, none⟩) 8 cI, .slice (some ⟨gU, 0, none⟩) 64 cU]) rfl rfl (by kernel_rfl) (by kernel_rfl) (by kernel_rfl) (fun _ _ _ h => h) (.inl ⟨rfl, fun w' hS => by go_simp⟩) kS9 ?_
            try simp only [Act.put, List.setIfInBounds_toArray, List.set_cons_zero, List.set_cons_succ]
            refine wpAnyH_all (rs := [15]) (by kernel_rfl) (by simp) (fun i hiR => ?_)
            obtain rfl : i = 15 := by simpa using hiR
            have kN := kT.row #[.int .i64 r, .slice (some ⟨gI, 0, none⟩) 8 cI, .slice (some ⟨gU, 0, none⟩) 64 cU]
            have kS2 := kS9.rowfar (show w.heap.size ≠ wa15.heap.size by omega) #[.int .i64 r, .slice (some ⟨gI, 0, none⟩) 8 cI, .slice (some ⟨gU, 0, none⟩) 64 cU]
            have hBn := below_row hB (show w1.heap.size ≤ wa15.heap.size by omega) #[.int .i64 r, .slice (some ⟨gI, 0, none⟩) 8 cI, .slice (some ⟨gU, 0, none⟩) 64 cU]
            have nI := hrI.rowfar (q := wa15.heap.size) (hneI gI 0 (by omega) rfl) #[.int .i64 r, .slice (some ⟨gI, 0, none⟩) 8 cI, .slice (some ⟨gU, 0, none⟩) 64 cU]
            have nU := hrU.rowfar (q := wa15.heap.size) (hneU gU 0 (by omega) rfl) #[.int .i64 r, .slice (some ⟨gI, 0, none⟩) 8 cI, .slice (some ⟨gU, 0, none⟩) 64 cU]
            refine storeD 15 rfl rfl rfl 26 _ _ rfl (wa15.heap.size) #[.int .i64 r, .slice (some ⟨gI, 0, none⟩) 8 cI, .slice (some ⟨gU, 0, none⟩) 64 cU] rfl rfl 26 _ kT (by kernel_rfl) rfl (all_oneCell_toArray (fun v hv => by simp at hv; rcases hv with rfl | rfl | rfl <;> rfl)) ⟨kS2, ?_⟩
            generalize World.setRow wa20 (wa15.heap.size) #[.int .i64 r, .slice (some ⟨gI, 0, none⟩) 8 cI, .slice (some ⟨gU, 0, none⟩) 64 cU] = wz21 at *
            try simp only [Act.put, List.setIfInBounds_toArray, List.set_cons_zero, List.set_cons_succ]
            refine wpAnyH_done (by kernel_rfl) ?_ _
            try go_frame
            go_wp2_with fail
            go_meet
            exact ⟨_, _, _, _, _, rfl, by omega, kN, nI, nU, hdIU gI 0 (by omega) rfl gU 0 (by omega) rfl, (hlI gI 0 (by omega) rfl).1, (hlU gU 0 (by omega) rfl).1, hBn⟩
        · skip
          refine valD 14 (some 3) rfl rfl rfl (hal _ _ _ rfl) ⟨kS9.alloc _, ?_⟩
          have kT := Bk.new wn14 #[.int .i64 0, .slice none 0 0, .slice none 0 0] 26
          replace kS9 := kS9.alloc (.cells #[.int .i64 0, .slice none 0 0, .slice none 0 0] 26)
          have hz_wn22 := hB.size
          replace hB := hB.alloc (by omega) (.cells #[.int .i64 0, .slice none 0 0, .slice none 0 0] 26)
          generalize hw_wn22 : wn14.alloc (.cells #[.int .i64 0, .slice none 0 0, .slice none 0 0] 26) = wn22 at *
          try simp only [Act.put, List.setIfInBounds_toArray, List.set_cons_zero, List.set_cons_succ]
          refine wpAnyH_all (rs := [7]) (by kernel_rfl) (by simp) (fun i hiR => ?_)
          obtain rfl : i = 7 := by simpa using hiR
          have hTq := kT.lt
          refine appD 7 (some 11) rfl rfl rfl (fun K' hK' => step_append_ownD rfl _ _ 23 rfl 3 i0 (.int .i64 0) 8 Tryd.underlying23 hi hz0 hz1 hz2 rfl _ rfl L 8 cl (iw ls) rfl (hRd_I _ hB) (oneCells_int _ _) (by simp only [maxLen]; omega) (by omega) (by omega) ?_)
          intro gI cI wa23 hrI hlI hcI hb_wa23
          refine hK' _ _ ⟨kS9.to hb_wa23, ?_⟩
          have hneI := fun b off h0 e => (Nat.ne_of_lt (Nat.lt_of_lt_of_le hTq (hlI b off h0 e).1)).symm
          clear hTq
          replace kS9 := kS9.to hb_wa23
          replace kT := kT.to hb_wa23
          have hz_wa23 := hB.size
          replace hB := hB.trans (hb_wa23.mono (by omega))
          replace hlI := fun b off h0 e => And.intro (Nat.le_trans hz_wa23 (hlI b off h0 e).1) (hlI b off h0 e).2
          try simp only [Act.put, List.setIfInBounds_toArray, List.set_cons_zero, List.set_cons_succ]
          refine wpAnyH_all (rs := [12]) (by kernel_rfl) (by simp) (fun i hiR => ?_)
          obtain rfl : i = 12 := by simpa using hiR
          have hTq := kT.lt
          refine appD 12 (some 16) rfl rfl rfl (fun K' hK' => step_append_ownD rfl _ _ 24 rfl 55 j0 (.int .u64 0) 8 Tryd.underlying24 hj hy0 hy1 hy2 rfl _ rfl B 64 d (uw es) rfl (hRd_U _ hB) (oneCells_uw _) (by simp only [maxLen]; omega) (by omega) (by omega) ?_)
          intro gU cU wa24 hrU hlU hcU hb_wa24
          refine hK' _ _ ⟨kS9.to hb_wa24, ?_⟩
          have hdIU := fun b off h0 e b' off' h0' e' => Nat.ne_of_lt (Nat.lt_of_lt_of_le (hlI b off h0 e).2 (hlU b' off' h0' e').1)
          have hneU := fun b off h0 e => (Nat.ne_of_lt (Nat.lt_of_lt_of_le hTq (hlU b off h0 e).1)).symm
          clear hTq
          replace hlI := fun b off h0 e => And.intro (hlI b off h0 e).1 (Nat.lt_of_lt_of_le (hlI b off h0 e).2 hb_wa24.size)
          replace kS9 := kS9.to hb_wa24
          replace kT := kT.to hb_wa24
          replace hrI := hrI.to hb_wa24
          have hz_wa24 := hB.size
          replace hB := hB.trans (hb_wa24.mono (by omega))
          replace hlU := fun b off h0 e => And.intro (Nat.le_trans hz_wa24 (hlU b off h0 e).1) (hlU b off h0 e).2
          try simp only [Act.put, List.setIfInBounds_toArray, List.set_cons_zero, List.set_cons_succ]
          refine takeD 13 (some 17) (.agg #[.int .i64 r, .slice (some ⟨gI, 0, none⟩) 8 cI, .slice (some ⟨gU, 0, none⟩) 64 cU]) rfl rfl (by kernel_rfl) (by kernel_rfl) (by kernel_rfl) (fun _ _ _ h => h) (.inl ⟨rfl, fun w' hS => by go_simp⟩) kS9 ?_
          try simp only [Act.put, List.setIfInBounds_toArray, List.set_cons_zero, List.set_cons_succ]
          refine wpAnyH_all (rs := [15]) (by kernel_rfl) (by simp) (fun i hiR => ?_)
          obtain rfl : i = 15 := by simpa using hiR
          have kN := kT.row #[.int .i64 r, .slice (some ⟨gI, 0, none⟩) 8 cI, .slice (some ⟨gU, 0, none⟩) 64 cU]
          have kS2 := kS9.rowfar (show w.heap.size ≠ wn14.heap.size by omega) #[.int .i64 r, .slice (some ⟨gI, 0, none⟩) 8 cI, .slice (some ⟨gU, 0, none⟩) 64 cU]
          have hBn := below_row hB (show w1.heap.size ≤ wn14.heap.size by omega) #[.int .i64 r, .slice (some ⟨gI, 0, none⟩) 8 cI, .slice (some ⟨gU, 0, none⟩) 64 cU]
          have nI := hrI.rowfar (q := wn14.heap.size) (hneI gI 0 (by omega) rfl) #[.int .i64 r, .slice (some ⟨gI, 0, none⟩) 8 cI, .slice (some ⟨gU, 0, none⟩) 64 cU]
          have nU := hrU.rowfar (q := wn14.heap.size) (hneU gU 0 (by omega) rfl) #[.int .i64 r, .slice (some ⟨gI, 0, none⟩) 8 cI, .slice (some ⟨gU, 0, none⟩) 64 cU]
          refine storeD 15 rfl rfl rfl 26 _ _ rfl (wn14.heap.size) #[.int .i64 r, .slice (some ⟨gI, 0, none⟩) 8 cI, .slice (some ⟨gU, 0, none⟩) 64 cU] rfl rfl 26 _ kT (by kernel_rfl) rfl (all_oneCell_toArray (fun v hv => by simp at hv; rcases hv with rfl | rfl | rfl <;> rfl)) ⟨kS2, ?_⟩
          generalize World.setRow wa24 (wn14.heap.size) #[.int .i64 r, .slice (some ⟨gI, 0, none⟩) 8 cI, .slice (some ⟨gU, 0, none⟩) 64 cU] = wz25 at *
          try simp only [Act.put, List.setIfInBounds_toArray, List.set_cons_zero, List.set_cons_succ]
          refine wpAnyH_done (by kernel_rfl) ?_ _
          try go_frame
          go_wp2_with fail
          go_meet
          exact ⟨_, _, _, _, _, rfl, by omega, kN, nI, nU, hdIU gI 0 (by omega) rfl gU 0 (by omega) rfl, (hlI gI 0 (by omega) rfl).1, (hlU gU 0 (by omega) rfl).1, hBn⟩
      · skip
        refine valD 14 (some 3) rfl rfl rfl (hal _ _ _ rfl) ⟨kS9.alloc _, ?_⟩
        have kT := Bk.new wn1 #[.int .i64 0, .slice none 0 0, .slice none 0 0] 26
        replace kS9 := kS9.alloc (.cells #[.int .i64 0, .slice none 0 0, .slice none 0 0] 26)
        have hz_wn26 := hB.size
        replace hB := hB.alloc (by omega) (.cells #[.int .i64 0, .slice none 0 0, .slice none 0 0] 26)
        generalize hw_wn26 : wn1.alloc (.cells #[.int .i64 0, .slice none 0 0, .slice none 0 0] 26) = wn26 at *
        try simp only [Act.put, List.setIfInBounds_toArray, List.set_cons_zero, List.set_cons_succ]
        refine wpAnyH_all (rs := [7, 8]) (by kernel_rfl) (by simp) (fun i hiR => ?_)
        simp only [List.mem_cons, List.not_mem_nil, or_false] at hiR
        rcases hiR with rfl | rfl
        · skip
          have hTq := kT.lt
          refine appD 7 (some 11) rfl rfl rfl (fun K' hK' => step_append_ownD rfl _ _ 23 rfl 3 i0 (.int .i64 0) 8 Tryd.underlying23 hi hz0 hz1 hz2 rfl _ rfl L 8 cl (iw ls) rfl (hRd_I _ hB) (oneCells_int _ _) (by simp only [maxLen]; omega) (by omega) (by omega) ?_)
          intro gI cI wa27 hrI hlI hcI hb_wa27
          refine hK' _ _ ⟨kS9.to hb_wa27, ?_⟩
          have hneI := fun b off h0 e => (Nat.ne_of_lt (Nat.lt_of_lt_of_le hTq (hlI b off h0 e).1)).symm
          clear hTq
          replace kS9 := kS9.to hb_wa27
          replace kT := kT.to hb_wa27
          have hz_wa27 := hB.size
          replace hB := hB.trans (hb_wa27.mono (by omega))
          replace hlI := fun b off h0 e => And.intro (Nat.le_trans hz_wa27 (hlI b off h0 e).1) (hlI b off h0 e).2
          try simp only [Act.put, List.setIfInBounds_toArray, List.set_cons_zero, List.set_cons_succ]
          refine wpAnyH_all (rs := [8]) (by kernel_rfl) (by simp) (fun i hiR => ?_)
          obtain rfl : i = 8 := by simpa using hiR
          refine valD 8 (some 12) rfl rfl rfl (hbs8 _ _ _ rfl) ⟨kS9.alloc _, ?_⟩
          replace hlI := fun b off h0 e => And.intro (hlI b off h0 e).1 (Nat.lt_of_lt_of_le (hlI b off h0 e).2 (show wa27.heap.size ≤ (wa27.alloc (.cells #[] 55)).heap.size by rw [World.size_alloc]; omega))
          replace kS9 := kS9.alloc (.cells #[] 55)
          replace kT := kT.alloc (.cells #[] 55)
          replace hrI := hrI.alloc (.cells #[] 55)
          have hz_wn28 := hB.size
          replace hB := hB.alloc (by omega) (.cells #[] 55)
          generalize hw_wn28 : wa27.alloc (.cells #[] 55) = wn28 at *
          try simp only [Act.put, List.setIfInBounds_toArray, List.set_cons_zero, List.set_cons_succ]
          refine wpAnyH_all (rs := [12]) (by kernel_rfl) (by simp) (fun i hiR => ?_)
          obtain rfl : i = 12 := by simpa using hiR
          have hTq := kT.lt
          refine appD 12 (some 16) rfl rfl rfl (fun K' hK' => step_append_ownD rfl _ _ 24 rfl 55 j0 (.int .u64 0) 8 Tryd.underlying24 hj hy0 hy1 hy2 rfl _ rfl B 64 d (uw es) rfl (hRd_U _ hB) (oneCells_uw _) (by simp only [maxLen]; omega) (by omega) (by omega) ?_)
          intro gU cU wa29 hrU hlU hcU hb_wa29
          refine hK' _ _ ⟨kS9.to hb_wa29, ?_⟩
          have hdIU := fun b off h0 e b' off' h0' e' => Nat.ne_of_lt (Nat.lt_of_lt_of_le (hlI b off h0 e).2 (hlU b' off' h0' e').1)
          have hneU := fun b off h0 e => (Nat.ne_of_lt (Nat.lt_of_lt_of_le hTq (hlU b off h0 e).1)).symm
          clear hTq
          replace hlI := fun b off h0 e => And.intro (hlI b off h0 e).1 (Nat.lt_of_lt_of_le (hlI b off h0 e).2 hb_wa29.size)
          replace kS9 := kS9.to hb_wa29
          replace kT := kT.to hb_wa29
          replace hrI := hrI.to hb_wa29
          have hz_wa29 := hB.size
          replace hB := hB.trans (hb_wa29.mono (by omega))
          replace hlU := fun b off h0 e => And.intro (Nat.le_trans hz_wa29 (hlU b off h0 e).1) (hlU b off h0 e).2
          try simp only [Act.put, List.setIfInBounds_toArray, List.set_cons_zero, List.set_cons_succ]
          refine takeD 13 (some 17) (.agg #[.int .i64 r, .slice (some ⟨gI, 0, none⟩) 8 cI, .slice (some ⟨gU, 0, none⟩) 64 cU]) rfl rfl (by kernel_rfl) (by kernel_rfl) (by kernel_rfl) (fun _ _ _ h => h) (.inl ⟨rfl, fun w' hS => by go_simp⟩) kS9 ?_
          try simp only [Act.put, List.setIfInBounds_toArray, List.set_cons_zero, List.set_cons_succ]
          refine wpAnyH_all (rs := [15]) (by kernel_rfl) (by simp) (fun i hiR => ?_)
          obtain rfl : i = 15 := by simpa using hiR
          have kN := kT.row #[.int .i64 r, .slice (some ⟨gI, 0, none⟩) 8 cI, .slice (some ⟨gU, 0, none⟩) 64 cU]
          have kS2 := kS9.rowfar (show w.heap.size ≠ wn1.heap.size by omega) #[.int .i64 r, .slice (some ⟨gI, 0, none⟩) 8 cI, .slice (some ⟨gU, 0, none⟩) 64 cU]
          have hBn := below_row hB (show w1.heap.size ≤ wn1.heap.size by omega) #[.int .i64 r, .slice (some ⟨gI, 0, none⟩) 8 cI, .slice (some ⟨gU, 0, none⟩) 64 cU]
          have nI := hrI.rowfar (q := wn1.heap.size) (hneI gI 0 (by omega) rfl) #[.int .i64 r, .slice (some ⟨gI, 0, none⟩) 8 cI, .slice (some ⟨gU, 0, none⟩) 64 cU]
          have nU := hrU.rowfar (q := wn1.heap.size) (hneU gU 0 (by omega) rfl) #[.int .i64 r, .slice (some ⟨gI, 0, none⟩) 8 cI, .slice (some ⟨gU, 0, none⟩) 64 cU]
          refine storeD 15 rfl rfl rfl 26 _ _ rfl (wn1.heap.size) #[.int .i64 r, .slice (some ⟨gI, 0, none⟩) 8 cI, .slice (some ⟨gU, 0, none⟩) 64 cU] rfl rfl 26 _ kT (by kernel_rfl) rfl (all_oneCell_toArray (fun v hv => by simp at hv; rcases hv with rfl | rfl | rfl <;> rfl)) ⟨kS2, ?_⟩
          generalize World.setRow wa29 (wn1.heap.size) #[.int .i64 r, .slice (some ⟨gI, 0, none⟩) 8 cI, .slice (some ⟨gU, 0, none⟩) 64 cU] = wz30 at *
          try simp only [Act.put, List.setIfInBounds_toArray, List.set_cons_zero, List.set_cons_succ]
          refine wpAnyH_done (by kernel_rfl) ?_ _
          try go_frame
          go_wp2_with fail
          go_meet
          exact ⟨_, _, _, _, _, rfl, by omega, kN, nI, nU, hdIU gI 0 (by omega) rfl gU 0 (by omega) rfl, (hlI gI 0 (by omega) rfl).1, (hlU gU 0 (by omega) rfl).1, hBn⟩
        · skip
          refine valD 8 (some 12) rfl rfl rfl (hbs8 _ _ _ rfl) ⟨kS9.alloc _, ?_⟩
          replace kS9 := kS9.alloc (.cells #[] 55)
          replace kT := kT.alloc (.cells #[] 55)
          have hz_wn31 := hB.size
          replace hB := hB.alloc (by omega) (.cells #[] 55)
          generalize hw_wn31 : wn26.alloc (.cells #[] 55) = wn31 at *
          try simp only [Act.put, List.setIfInBounds_toArray, List.set_cons_zero, List.set_cons_succ]
          refine wpAnyH_all (rs := [7]) (by kernel_rfl) (by simp) (fun i hiR => ?_)
          obtain rfl : i = 7 := by simpa using hiR
          have hTq := kT.lt
          refine appD 7 (some 11) rfl rfl rfl (fun K' hK' => step_append_ownD rfl _ _ 23 rfl 3 i0 (.int .i64 0) 8 Tryd.underlying23 hi hz0 hz1 hz2 rfl _ rfl L 8 cl (iw ls) rfl (hRd_I _ hB) (oneCells_int _ _) (by simp only [maxLen]; omega) (by omega) (by omega) ?_)
          intro gI cI wa32 hrI hlI hcI hb_wa32
          refine hK' _ _ ⟨kS9.to hb_wa32, ?_⟩
          have hneI := fun b off h0 e => (Nat.ne_of_lt (Nat.lt_of_lt_of_le hTq (hlI b off h0 e).1)).symm
          clear hTq
          replace kS9 := kS9.to hb_wa32
          replace kT := kT.to hb_wa32
          have hz_wa32 := hB.size
          replace hB := hB.trans (hb_wa32.mono (by omega))
          replace hlI := fun b off h0 e => And.intro (Nat.le_trans hz_wa32 (hlI b off h0 e).1) (hlI b off h0 e).2
          try simp only [Act.put, List.setIfInBounds_toArray, List.set_cons_zero, List.set_cons_succ]
          refine wpAnyH_all (rs := [12]) (by kernel_rfl) (by simp) (fun i hiR => ?_)
          obtain rfl : i = 12 := by simpa using hiR
          have hTq := kT.lt
          refine appD 12 (some 16) rfl rfl rfl (fun K' hK' => step_append_ownD rfl _ _ 24 rfl 55 j0 (.int .u64 0) 8 Tryd.underlying24 hj hy0 hy1 hy2 rfl _ rfl B 64 d (uw es) rfl (hRd_U _ hB) (oneCells_uw _) (by simp only [maxLen]; omega) (by omega) (by omega) ?_)
          intro gU cU wa33 hrU hlU hcU hb_wa33
          refine hK' _ _ ⟨kS9.to hb_wa33, ?_⟩
          have hdIU := fun b off h0 e b' off' h0' e' => Nat.ne_of_lt (Nat.lt_of_lt_of_le (hlI b off h0 e).2 (hlU b' off' h0' e').1)
          have hneU := fun b off h0 e => (Nat.ne_of_lt (Nat.lt_of_lt_of_le hTq (hlU b off h0 e).1)).symm
          clear hTq
          replace hlI := fun b off h0 e => And.intro (hlI b off h0 e).1 (Nat.lt_of_lt_of_le (hlI b off h0 e).2 hb_wa33.size)
          replace kS9 := kS9.to hb_wa33
          replace kT := kT.to hb_wa33
          replace hrI := hrI.to hb_wa33
          have hz_wa33 := hB.size
          replace hB := hB.trans (hb_wa33.mono (by omega))
          replace hlU := fun b off h0 e => And.intro (Nat.le_trans hz_wa33 (hlU b off h0 e).1) (hlU b off h0 e).2
          try simp only [Act.put, List.setIfInBounds_toArray, List.set_cons_zero, List.set_cons_succ]
          refine takeD 13 (some 17) (.agg #[.int .i64 r, .slice (some ⟨gI, 0, none⟩) 8 cI, .slice (some ⟨gU, 0, none⟩) 64 cU]) rfl rfl (by kernel_rfl) (by kernel_rfl) (by kernel_rfl) (fun _ _ _ h => h) (.inl ⟨rfl, fun w' hS => by go_simp⟩) kS9 ?_
          try simp only [Act.put, List.setIfInBounds_toArray, List.set_cons_zero, List.set_cons_succ]
          refine wpAnyH_all (rs := [15]) (by kernel_rfl) (by simp) (fun i hiR => ?_)
          obtain rfl : i = 15 := by simpa using hiR
          have kN := kT.row #[.int .i64 r, .slice (some ⟨gI, 0, none⟩) 8 cI, .slice (some ⟨gU, 0, none⟩) 64 cU]
          have kS2 := kS9.rowfar (show w.heap.size ≠ wn1.heap.size by omega) #[.int .i64 r, .slice (some ⟨gI, 0, none⟩) 8 cI, .slice (some ⟨gU, 0, none⟩) 64 cU]
          have hBn := below_row hB (show w1.heap.size ≤ wn1.heap.size by omega) #[.int .i64 r, .slice (some ⟨gI, 0, none⟩) 8 cI, .slice (some ⟨gU, 0, none⟩) 64 cU]
          have nI := hrI.rowfar (q := wn1.heap.size) (hneI gI 0 (by omega) rfl) #[.int .i64 r, .slice (some ⟨gI, 0, none⟩) 8 cI, .slice (some ⟨gU, 0, none⟩) 64 cU]
          have nU := hrU.rowfar (q := wn1.heap.size) (hneU gU 0 (by omega) rfl) #[.int .i64 r, .slice (some ⟨gI, 0, none⟩) 8 cI, .slice (some ⟨gU, 0, none⟩) 64 cU]
          refine storeD 15 rfl rfl rfl 26 _ _ rfl (wn1.heap.size) #[.int .i64 r, .slice (some ⟨gI, 0, none⟩) 8 cI, .slice (some ⟨gU, 0, none⟩) 64 cU] rfl rfl 26 _ kT (by kernel_rfl) rfl (all_oneCell_toArray (fun v hv => by simp at hv; rcases hv with rfl | rfl | rfl <;> rfl)) ⟨kS2, ?_⟩
          generalize World.setRow wa33 (wn1.heap.size) #[.int .i64 r, .slice (some ⟨gI, 0, none⟩) 8 cI, .slice (some ⟨gU, 0, none⟩) 64 cU] = wz34 at *
          try simp only [Act.put, List.setIfInBounds_toArray, List.set_cons_zero, List.set_cons_succ]
          refine wpAnyH_done (by kernel_rfl) ?_ _
          try go_frame
          go_wp2_with fail
          go_meet
          exact ⟨_, _, _, _, _, rfl, by omega, kN, nI, nU, hdIU gI 0 (by omega) rfl gU 0 (by omega) rfl, (hlI gI 0 (by omega) rfl).1, (hlU gU 0 (by omega) rfl).1, hBn⟩
    · skip
      refine valD 8 (some 12) rfl rfl rfl (hbs8 _ _ _ rfl) ⟨kS9.alloc _, ?_⟩
      replace kS9 := kS9.alloc (.cells #[] 55)
      have hz_wn35 := hB.size
      replace hB := hB.alloc (by omega) (.cells #[] 55)
      generalize hw_wn35 : wd.alloc (.cells #[] 55) = wn35 at *
      try simp only [Act.put, List.setIfInBounds_toArray, List.set_cons_zero, List.set_cons_succ]
      refine wpAnyH_all (rs := [3, 14]) (by kernel_rfl) (by simp) (fun i hiR => ?_)
      simp only [List.mem_cons, List.not_mem_nil, or_false] at hiR
      rcases hiR with rfl | rfl
      · skip
        refine valD 3 (some 7) rfl rfl rfl (hbs3 _ _ _ rfl) ⟨kS9.alloc _, ?_⟩
        replace kS9 := kS9.alloc (.cells #[] 3)
        have hz_wn36 := hB.size
        replace hB := hB.alloc (by omega) (.cells #[] 3)
        generalize hw_wn36 : wn35.alloc (.cells #[] 3) = wn36 at *
        try simp only [Act.put, List.setIfInBounds_toArray, List.set_cons_zero, List.set_cons_succ]
        refine wpAnyH_all (rs := [7, 14]) (by kernel_rfl) (by simp) (fun i hiR => ?_)
        simp only [List.mem_cons, List.not_mem_nil, or_false] at hiR
        rcases hiR with rfl | rfl
        · skip
          refine appD 7 (some 11) rfl rfl rfl (fun K' hK' => step_append_ownD rfl _ _ 23 rfl 3 i0 (.int .i64 0) 8 Tryd.underlying23 hi hz0 hz1 hz2 rfl _ rfl L 8 cl (iw ls) rfl (hRd_I _ hB) (oneCells_int _ _) (by simp only [maxLen]; omega) (by omega) (by omega) ?_)
          intro gI cI wa37 hrI hlI hcI hb_wa37
          refine hK' _ _ ⟨kS9.to hb_wa37, ?_⟩
          replace kS9 := kS9.to hb_wa37
          have hz_wa37 := hB.size
          replace hB := hB.trans (hb_wa37.mono (by omega))
          replace hlI := fun b off h0 e => And.intro (Nat.le_trans hz_wa37 (hlI b off h0 e).1) (hlI b off h0 e).2
          try simp only [Act.put, List.setIfInBounds_toArray, List.set_cons_zero, List.set_cons_succ]
          refine wpAnyH_all (rs := [12, 14]) (by kernel_rfl) (by simp) (fun i hiR => ?_)
          simp only [List.mem_cons, List.not_mem_nil, or_false] at hiR
          rcases hiR with rfl | rfl
          · skip
            refine appD 12 (some 16) rfl rfl rfl (fun K' hK' => step_append_ownD rfl _ _ 24 rfl 55 j0 (.int .u64 0) 8 Tryd.underlying24 hj hy0 hy1 hy2 rfl _ rfl B 64 d (uw es) rfl (hRd_U _ hB) (oneCells_uw _) (by simp only [maxLen]; omega) (by omega) (by omega) ?_)
            intro gU cU wa38 hrU hlU hcU hb_wa38
            refine hK' _ _ ⟨kS9.to hb_wa38, ?_⟩
            have hdIU := fun b off h0 e b' off' h0' e' => Nat.ne_of_lt (Nat.lt_of_lt_of_le (hlI b off h0 e).2 (hlU b' off' h0' e').1)
            replace hlI := fun b off h0 e => And.intro (hlI b off h0 e).1 (Nat.lt_of_lt_of_le (hlI b off h0 e).2 hb_wa38.size)
            replace kS9 := kS9.to hb_wa38
            replace hrI := hrI.to hb_wa38
            have hz_wa38 := hB.size
            replace hB := hB.trans (hb_wa38.mono (by omega))
            replace hlU := fun b off h0 e => And.intro (Nat.le_trans hz_wa38 (hlU b off h0 e).1) (hlU b off h0 e).2
            try simp only [Act.put, List.setIfInBounds_toArray, List.set_cons_zero, List.set_cons_succ]
            refine takeD 13 (some 17) (.agg #[.int .i64 r, .slice (some ⟨gI, 0, none⟩) 8 cI, .slice (some ⟨gU, 0, none⟩) 64 cU]) rfl rfl (by kernel_rfl) (by kernel_rfl) (by kernel_rfl) (fun _ _ _ h => h) (.inl ⟨rfl, fun w' hS => by go_simp⟩) kS9 ?_
            try simp only [Act.put, List.setIfInBounds_toArray, List.set_cons_zero, List.set_cons_succ]
            refine wpAnyH_all (rs := [14]) (by kernel_rfl) (by simp) (fun i hiR => ?_)
            obtain rfl : i = 14 := by simpa using hiR
            refine valD 14 (some 3) rfl rfl rfl (hal _ _ _ rfl) ⟨kS9.alloc _, ?_⟩
            have kT := Bk.new wa38 #[.int .i64 0, .slice none 0 0, .slice none 0 0] 26
            have hneI := fun b off h0 e => Nat.ne_of_lt (hlI b off h0 e).2
            have hneU := fun b off h0 e => Nat.ne_of_lt (hlU b off h0 e).2
            replace hlI := fun b off h0 e => And.intro (hlI b off h0 e).1 (Nat.lt_of_lt_of_le (hlI b off h0 e).2 (show wa38.heap.size ≤ (wa38.alloc (.cells #[.int .i64 0, .slice none 0 0, .slice none 0 0] 26)).heap.size by rw [World.size_alloc]; omega))
            replace hlU := fun b off h0 e => And.intro (hlU b off h0 e).1 (Nat.lt_of_lt_of_le (hlU b off h0 e).2 (show wa38.heap.size ≤ (wa38.alloc (.cells #[.int .i64 0, .slice none 0 0, .slice none 0 0] 26)).heap.size by rw [World.size_alloc]; omega))
            replace kS9 := kS9.alloc (.cells #[.int .i64 0, .slice none 0 0, .slice none 0 0] 26)
            replace hrI := hrI.alloc (.cells #[.int .i64 0, .slice none 0 0, .slice none 0 0] 26)
            replace hrU := hrU.alloc (.cells #[.int .i64 0, .slice none 0 0, .slice none 0 0] 26)
            have hz_wn39 := hB.size
            replace hB := hB.alloc (by omega) (.cells #[.int .i64 0, .slice none 0 0, .slice none 0 0] 26)
            generalize hw_wn39 : wa38.alloc (.cells #[.int .i64 0, .slice none 0 0, .slice none 0 0] 26) = wn39 at *
            try simp only [Act.put, List.setIfInBounds_toArray, List.set_cons_zero, List.set_cons_succ]
            refine wpAnyH_all (rs := [15]) (by kernel_rfl) (by simp) (fun i hiR => ?_)
            obtain rfl : i = 15 := by simpa using hiR
            have kN := kT.row #[.int .i64 r, .slice (some ⟨gI, 0, none⟩) 8 cI, .slice (some ⟨gU, 0, none⟩) 64 cU]
            have kS2 := kS9.rowfar (show w.heap.size ≠ wa38.heap.size by omega) #[.int .i64 r, .slice (some ⟨gI, 0, none⟩) 8 cI, .slice (some ⟨gU, 0, none⟩) 64 cU]
            have hBn := below_row hB (show w1.heap.size ≤ wa38.heap.size by omega) #[.int .i64 r, .slice (some ⟨gI, 0, none⟩) 8 cI, .slice (some ⟨gU, 0, none⟩) 64 cU]
            have nI := hrI.rowfar (q := wa38.heap.size) (hneI gI 0 (by omega) rfl) #[.int .i64 r, .slice (some ⟨gI, 0, none⟩) 8 cI, .slice (some ⟨gU, 0, none⟩) 64 cU]
            have nU := hrU.rowfar (q := wa38.heap.size) (hneU gU 0 (by omega) rfl) #[.int .i64 r, .slice (some ⟨gI, 0, none⟩) 8 cI, .slice (some ⟨gU, 0, none⟩) 64 cU]
            refine storeD 15 rfl rfl rfl 26 _ _ rfl (wa38.heap.size) #[.int .i64 r, .slice (some ⟨gI, 0, none⟩) 8 cI, .slice (some ⟨gU, 0, none⟩) 64 cU] rfl rfl 26 _ kT (by kernel_rfl) rfl (all_oneCell_toArray (fun v hv => by simp at hv; rcases hv with rfl | rfl | rfl <;> rfl)) ⟨kS2, ?_⟩
            generalize World.setRow wn39 (wa38.heap.size) #[.int .i64 r, .slice (some ⟨gI, 0, none⟩) 8 cI, .slice (some ⟨gU, 0, none⟩) 64 cU] = wz40 at *
            try simp only [Act.put, List.setIfInBounds_toArray, List.set_cons_zero, List.set_cons_succ]
            refine wpAnyH_done (by kernel_rfl) ?_ _
            try go_frame
            go_wp2_with fail
            go_meet
            exact ⟨_, _, _, _, _, rfl, by omega, kN, nI, nU, hdIU gI 0 (by omega) rfl gU 0 (by omega) rfl, (hlI gI 0 (by omega) rfl).1, (hlU gU 0 (by omega) rfl).1, hBn⟩
          · skip
            refine valD 14 (some 3) rfl rfl rfl (hal _ _ _ rfl) ⟨kS9.alloc _, ?_⟩
            have kT := Bk.new wa37 #[.int .i64 0, .slice none 0 0, .slice none 0 0] 26
            have hneI := fun b off h0 e => Nat.ne_of_lt (hlI b off h0 e).2
            replace hlI := fun b off h0 e => And.intro (hlI b off h0 e).1 (Nat.lt_of_lt_of_le (hlI b off h0 e).2 (show wa37.heap.size ≤ (wa37.alloc (.cells #[.int .i64 0, .slice none 0 0, .slice none 0 0] 26)).heap.size by rw [World.size_alloc]; omega))
            replace kS9 := kS9.alloc (.cells #[.int .i64 0, .slice none 0 0, .slice none 0 0] 26)
            replace hrI := hrI.alloc (.cells #[.int .i64 0, .slice none 0 0, .slice none 0 0] 26)
            have hz_wn41 := hB.size
            replace hB := hB.alloc (by omega) (.cells #[.int .i64 0, .slice none 0 0, .slice none 0 0] 26)
            generalize hw_wn41 : wa37.alloc (.cells #[.int .i64 0, .slice none 0 0, .slice none 0 0] 26) = wn41 at *
            try simp only [Act.put, List.setIfInBounds_toArray, List.set_cons_zero, List.set_cons_succ]
            refine wpAnyH_all (rs := [12]) (by kernel_rfl) (by simp) (fun i hiR => ?_)
            obtain rfl : i = 12 := by simpa using hiR
            have hTq := kT.lt
            refine appD 12 (some 16) rfl rfl rfl (fun K' hK' => step_append_ownD rfl _ _ 24 rfl 55 j0 (.int .u64 0) 8 Tryd.underlying24 hj hy0 hy1 hy2 rfl _ rfl B 64 d (uw es) rfl (hRd_U _ hB) (oneCells_uw _) (by simp only [maxLen]; omega) (by omega) (by omega) ?_)
            intro gU cU wa42 hrU hlU hcU hb_wa42
            refine hK' _ _ ⟨kS9.to hb_wa42, ?_⟩
            have hdIU := fun b off h0 e b' off' h0' e' => Nat.ne_of_lt (Nat.lt_of_lt_of_le (hlI b off h0 e).2 (hlU b' off' h0' e').1)
            have hneU := fun b off h0 e => (Nat.ne_of_lt (Nat.lt_of_lt_of_le hTq (hlU b off h0 e).1)).symm
            clear hTq
            replace hlI := fun b off h0 e => And.intro (hlI b off h0 e).1 (Nat.lt_of_lt_of_le (hlI b off h0 e).2 hb_wa42.size)
            replace kS9 := kS9.to hb_wa42
            replace kT := kT.to hb_wa42
            replace hrI := hrI.to hb_wa42
            have hz_wa42 := hB.size
            replace hB := hB.trans (hb_wa42.mono (by omega))
            replace hlU := fun b off h0 e => And.intro (Nat.le_trans hz_wa42 (hlU b off h0 e).1) (hlU b off h0 e).2
            try simp only [Act.put, List.setIfInBounds_toArray, List.set_cons_zero, List.set_cons_succ]
            refine takeD 13 (some 17) (.agg #[.int .i64 r, .slice (some ⟨gI, 0, none⟩) 8 cI, .slice (some ⟨gU, 0, none⟩) 64 cU]) rfl rfl (by kernel_rfl) (by kernel_rfl) (by kernel_rfl) (fun _ _ _ h => h) (.inl ⟨rfl, fun w' hS => by go_simp⟩) kS9 ?_
            try simp only [Act.put, List.setIfInBounds_toArray, List.set_cons_zero, List.set_cons_succ]
            refine wpAnyH_all (rs := [15]) (by kernel_rfl) (by simp) (fun i hiR => ?_)
            obtain rfl : i = 15 := by simpa using hiR
            have kN := kT.row #[.int .i64 r, .slice (some ⟨gI, 0, none⟩) 8 cI, .slice (some ⟨gU, 0, none⟩) 64 cU]
            have kS2 := kS9.rowfar (show w.heap.size ≠ wa37.heap.size by omega) #[.int .i64 r, .slice (some ⟨gI, 0, none⟩) 8 cI, .slice (some ⟨gU, 0, none⟩) 64 cU]
            have hBn := below_row hB (show w1.heap.size ≤ wa37.heap.size by omega) #[.int .i64 r, .slice (some ⟨gI, 0, none⟩) 8 cI, .slice (some ⟨gU, 0, none⟩) 64 cU]
            have nI := hrI.rowfar (q := wa37.heap.size) (hneI gI 0 (by omega) rfl) #[.int .i64 r, .slice (some ⟨gI, 0, none⟩) 8 cI, .slice (some ⟨gU, 0, none⟩) 64 cU]
            have nU := hrU.rowfar (q := wa37.heap.size) (hneU gU 0 (by omega) rfl) #[.int .i64 r, .slice (some ⟨gI, 0, none⟩) 8 cI, .slice (some ⟨gU, 0, none⟩) 64 cU]
            refine storeD 15 rfl rfl rfl 26 _ _ rfl (wa37.heap.size) #[.int .i64 r, .slice (some ⟨gI, 0, none⟩) 8 cI, .slice (some ⟨gU, 0, none⟩) 64 cU] rfl rfl 26 _ kT (by kernel_rfl) rfl (all_oneCell_toArray (fun v hv => by simp at hv; rcases hv with rfl | rfl | rfl <;> rfl)) ⟨kS2, ?_⟩
            generalize World.setRow wa42 (wa37.heap.size) #[.int .i64 r, .slice (some ⟨gI, 0, none⟩) 8 cI, .slice (some ⟨gU, 0, none⟩) 64 cU] = wz43 at *
            try simp only [Act.put, List.setIfInBounds_toArray, List.set_cons_zero, List.set_cons_succ]
            refine wpAnyH_done (by kernel_rfl) ?_ _
            try go_frame
            go_wp2_with fail
            go_meet
            exact ⟨_, _, _, _, _, rfl, by omega, kN, nI, nU, hdIU gI 0 (by omega) rfl gU 0 (by omega) rfl, (hlI gI 0 (by omega) rfl).1, (hlU gU 0 (by omega) rfl).1, hBn⟩
        · skip
          refine valD 14 (some 3) rfl rfl rfl (hal _ _ _ rfl) ⟨kS9.alloc _, ?_⟩
          have kT := Bk.new wn36 #[.int .i64 0, .slice none 0 0, .slice none 0 0] 26
          replace kS9 := kS9.alloc (.cells #[.int .i64 0, .slice none 0 0, .slice none 0 0] 26)
          have hz_wn44 := hB.size
          replace hB := hB.alloc (by omega) (.cells #[.int .i64 0, .slice none 0 0, .slice none 0 0] 26)
          generalize hw_wn44 : wn36.alloc (.cells #[.int .i64 0, .slice none 0 0, .slice none 0 0] 26) = wn44 at *
          try simp only [Act.put, List.setIfInBounds_toArray, List.set_cons_zero, List.set_cons_succ]
          refine wpAnyH_all (rs := [7]) (by kernel_rfl) (by simp) (fun i hiR => ?_)
          obtain rfl : i = 7 := by simpa using hiR
          have hTq := kT.lt
          refine appD 7 (some 11) rfl rfl rfl (fun K' hK' => step_append_ownD rfl _ _ 23 rfl 3 i0 (.int .i64 0) 8 Tryd.underlying23 hi hz0 hz1 hz2 rfl _ rfl L 8 cl (iw ls) rfl (hRd_I _ hB) (oneCells_int _ _) (by simp only [maxLen]; omega) (by omega) (by omega) ?_)
          intro gI cI wa45 hrI hlI hcI hb_wa45
          refine hK' _ _ ⟨kS9.to hb_wa45, ?_⟩
          have hneI := fun b off h0 e => (Nat.ne_of_lt (Nat.lt_of_lt_of_le hTq (hlI b off h0 e).1)).symm
          clear hTq
          replace kS9 := kS9.to hb_wa45
          replace kT := kT.to hb_wa45
          have hz_wa45 := hB.size
          replace hB := hB.trans (hb_wa45.mono (by omega))
          replace hlI := fun b off h0 e => And.intro (Nat.le_trans hz_wa45 (hlI b off h0 e).1) (hlI b off h0 e).2
          try simp only [Act.put, List.setIfInBounds_toArray, List.set_cons_zero, List.set_cons_succ]
          refine wpAnyH_all (rs := [12]) (by kernel_rfl) (by simp) (fun i hiR => ?_)
          obtain rfl : i = 12 := by simpa using hiR
          have hTq := kT.lt
          refine appD 12 (some 16) rfl rfl rfl (fun K' hK' => step_append_ownD rfl _ _ 24 rfl 55 j0 (.int .u64 0) 8 Tryd.underlying24 hj hy0 hy1 hy2 rfl _ rfl B 64 d (uw es) rfl (hRd_U _ hB) (oneCells_uw _) (by simp only [maxLen]; omega) (by omega) (by omega) ?_)
          intro gU cU wa46 hrU hlU hcU hb_wa46
          refine hK' _ _ ⟨kS9.to hb_wa46, ?_⟩
          have hdIU := fun b off h0 e b' off' h0' e' => Nat.ne_of_lt (Nat.lt_of_lt_of_le (hlI b off h0 e).2 (hlU b' off' h0' e').1)
          have hneU := fun b off h0 e => (Nat.ne_of_lt (Nat.lt_of_lt_of_le hTq (hlU b off h0 e).1)).symm
          clear hTq
          replace hlI := fun b off h0 e => And.intro (hlI b off h0 e).1 (Nat.lt_of_lt_of_le (hlI b off h0 e).2 hb_wa46.size)
          replace kS9 := kS9.to hb_wa46
          replace kT := kT.to hb_wa46
          replace hrI := hrI.to hb_wa46
          have hz_wa46 := hB.size
          replace hB := hB.trans (hb_wa46.mono (by omega))
          replace hlU := fun b off h0 e => And.intro (Nat.le_trans hz_wa46 (hlU b off h0 e).1) (hlU b off h0 e).2
          try simp only [Act.put, List.setIfInBounds_toArray, List.set_cons_zero, List.set_cons_succ]
          refine takeD 13 (some 17) (.agg #[.int .i64 r, .slice (some ⟨gI, 0, none⟩) 8 cI, .slice (some ⟨gU, 0, none⟩) 64 cU]) rfl rfl (by kernel_rfl) (by kernel_rfl) (by kernel_rfl) (fun _ _ _ h => h) (.inl ⟨rfl, fun w' hS => by go_simp⟩) kS9 ?_
          try simp only [Act.put, List.setIfInBounds_toArray, List.set_cons_zero, List.set_cons_succ]
          refine wpAnyH_all (rs := [15]) (by kernel_rfl) (by simp) (fun i hiR => ?_)
          obtain rfl : i = 15 := by simpa using hiR
          have kN := kT.row #[.int .i64 r, .slice (some ⟨gI, 0, none⟩) 8 cI, .slice (some ⟨gU, 0, none⟩) 64 cU]
          have kS2 := kS9.rowfar (show w.heap.size ≠ wn36.heap.size by omega) #[.int .i64 r, .slice (some ⟨gI, 0, none⟩) 8 cI, .slice (some ⟨gU, 0, none⟩) 64 cU]
          have hBn := below_row hB (show w1.heap.size ≤ wn36.heap.size by omega) #[.int .i64 r, .slice (some ⟨gI, 0, none⟩) 8 cI, .slice (some ⟨gU, 0, none⟩) 64 cU]
          have nI := hrI.rowfar (q := wn36.heap.size) (hneI gI 0 (by omega) rfl) #[.int .i64 r, .slice (some ⟨gI, 0, none⟩) 8 cI, .slice (some ⟨gU, 0, none⟩) 64 cU]
          have nU := hrU.rowfar (q := wn36.heap.size) (hneU gU 0 (by omega) rfl) #[.int .i64 r, .slice (some ⟨gI, 0, none⟩) 8 cI, .slice (some ⟨gU, 0, none⟩) 64 cU]
          refine storeD 15 rfl rfl rfl 26 _ _ rfl (wn36.heap.size) #[.int .i64 r, .slice (some ⟨gI, 0, none⟩) 8 cI, .slice (some ⟨gU, 0, none⟩) 64 cU] rfl rfl 26 _ kT (by kernel_rfl) rfl (all_oneCell_toArray (fun v hv => by simp at hv; rcases hv with rfl | rfl | rfl <;> rfl)) ⟨kS2, ?_⟩
          generalize World.setRow wa46 (wn36.heap.size) #[.int .i64 r, .slice (some ⟨gI, 0, none⟩) 8 cI, .slice (some ⟨gU, 0, none⟩) 64 cU] = wz47 at *
          try simp only [Act.put, List.setIfInBounds_toArray, List.set_cons_zero, List.set_cons_succ]
          refine wpAnyH_done (by kernel_rfl) ?_ _
          try go_frame
          go_wp2_with fail
          go_meet
          exact ⟨_, _, _, _, _, rfl, by omega, kN, nI, nU, hdIU gI 0 (by omega) rfl gU 0 (by omega) rfl, (hlI gI 0 (by omega) rfl).1, (hlU gU 0 (by omega) rfl).1, hBn⟩
      · skip
        refine valD 14 (some 3) rfl rfl rfl (hal _ _ _ rfl) ⟨kS9.alloc _, ?_⟩
        have kT := Bk.new wn35 #[.int .i64 0, .slice none 0 0, .slice none 0 0] 26
        replace kS9 := kS9.alloc (.cells #[.int .i64 0, .slice none 0 0, .slice none 0 0] 26)
        have hz_wn48 := hB.size
        replace hB := hB.alloc (by omega) (.cells #[.int .i64 0, .slice none 0 0, .slice none 0 0] 26)
        generalize hw_wn48 : wn35.alloc (.cells #[.int .i64 0, .slice none 0 0, .slice none 0 0] 26) = wn48 at *
        try simp only [Act.put, List.setIfInBounds_toArray, List.set_cons_zero, List.set_cons_succ]
        refine wpAnyH_all (rs := [3]) (by kernel_rfl) (by simp) (fun i hiR => ?_)
        obtain rfl : i = 3 := by simpa using hiR
        refine valD 3 (some 7) rfl rfl rfl (hbs3 _ _ _ rfl) ⟨kS9.alloc _, ?_⟩
        replace kS9 := kS9.alloc (.cells #[] 3)
        replace kT := kT.alloc (.cells #[] 3)
        have hz_wn49 := hB.size
        replace hB := hB.alloc (by omega) (.cells #[] 3)
        generalize hw_wn49 : wn48.alloc (.cells #[] 3) = wn49 at *
        try simp only [Act.put, List.setIfInBounds_toArray, List.set_cons_zero, List.set_cons_succ]
        refine wpAnyH_all (rs := [7]) (by kernel_rfl) (by simp) (fun i hiR => ?_)
        obtain rfl : i = 7 := by simpa using hiR
        have hTq := kT.lt
        refine appD 7 (some 11) rfl rfl rfl (fun K' hK' => step_append_ownD rfl _ _ 23 rfl 3 i0 (.int .i64 0) 8 Tryd.underlying23 hi hz0 hz1 hz2 rfl _ rfl L 8 cl (iw ls) rfl (hRd_I _ hB) (oneCells_int _ _) (by simp only [maxLen]; omega) (by omega) (by omega) ?_)
        intro gI cI wa50 hrI hlI hcI hb_wa50
        refine hK' _ _ ⟨kS9.to hb_wa50, ?_⟩
        have hneI := fun b off h0 e => (Nat.ne_of_lt (Nat.lt_of_lt_of_le hTq (hlI b off h0 e).1)).symm
        clear hTq
        replace kS9 := kS9.to hb_wa50
        replace kT := kT.to hb_wa50
        have hz_wa50 := hB.size
        replace hB := hB.trans (hb_wa50.mono (by omega))
        replace hlI := fun b off h0 e => And.intro (Nat.le_trans hz_wa50 (hlI b off h0 e).1) (hlI b off h0 e).2
        try simp only [Act.put, List.setIfInBounds_toArray, List.set_cons_zero, List.set_cons_succ]
        refine wpAnyH_all (rs := [12]) (by kernel_rfl) (by simp) (fun i hiR => ?_)
        obtain rfl : i = 12 := by simpa using hiR
        have hTq := kT.lt
        refine appD 12 (some 16) rfl rfl rfl (fun K' hK' => step_append_ownD rfl _ _ 24 rfl 55 j0 (.int .u64 0) 8 Tryd.underlying24 hj hy0 hy1 hy2 rfl _ rfl B 64 d (uw es) rfl (hRd_U _ hB) (oneCells_uw _) (by simp only [maxLen]; omega) (by omega) (by omega) ?_)
        intro gU cU wa51 hrU hlU hcU hb_wa51
        refine hK' _ _ ⟨kS9.to hb_wa51, ?_⟩
        have hdIU := fun b off h0 e b' off' h0' e' => Nat.ne_of_lt (Nat.lt_of_lt_of_le (hlI b off h0 e).2 (hlU b' off' h0' e').1)
        have hneU := fun b off h0 e => (Nat.ne_of_lt (Nat.lt_of_lt_of_le hTq (hlU b off h0 e).1)).symm
        clear hTq
        replace hlI := fun b off h0 e => And.intro (hlI b off h0 e).1 (Nat.lt_of_lt_of_le (hlI b off h0 e).2 hb_wa51.size)
        replace kS9 := kS9.to hb_wa51
        replace kT := kT.to hb_wa51
        replace hrI := hrI.to hb_wa51
        have hz_wa51 := hB.size
        replace hB := hB.trans (hb_wa51.mono (by omega))
        replace hlU := fun b off h0 e => And.intro (Nat.le_trans hz_wa51 (hlU b off h0 e).1) (hlU b off h0 e).2
        try simp only [Act.put, List.setIfInBounds_toArray, List.set_cons_zero, List.set_cons_succ]
        refine takeD 13 (some 17) (.agg #[.int .i64 r, .slice (some ⟨gI, 0, none⟩) 8 cI, .slice (some ⟨gU, 0, none⟩) 64 cU]) rfl rfl (by kernel_rfl) (by kernel_rfl) (by kernel_rfl) (fun _ _ _ h => h) (.inl ⟨rfl, fun w' hS => by go_simp⟩) kS9 ?_
        try simp only [Act.put, List.setIfInBounds_toArray, List.set_cons_zero, List.set_cons_succ]
        refine wpAnyH_all (rs := [15]) (by kernel_rfl) (by simp) (fun i hiR => ?_)
        obtain rfl : i = 15 := by simpa using hiR
        have kN := kT.row #[.int .i64 r, .slice (some ⟨gI, 0, none⟩) 8 cI, .slice (some ⟨gU, 0, none⟩) 64 cU]
        have kS2 := kS9.rowfar (show w.heap.size ≠ wn35.heap.size by omega) #[.int .i64 r, .slice (some ⟨gI, 0, none⟩) 8 cI, .slice (some ⟨gU, 0, none⟩) 64 cU]
        have hBn := below_row hB (show w1.heap.size ≤ wn35.heap.size by omega) #[.int .i64 r, .slice (some ⟨gI, 0, none⟩) 8 cI, .slice (some ⟨gU, 0, none⟩) 64 cU]
        have nI := hrI.rowfar (q := wn35.heap.size) (hneI gI 0 (by omega) rfl) #[.int .i64 r, .slice (some ⟨gI, 0, none⟩) 8 cI, .slice (some ⟨gU, 0, none⟩) 64 cU]
        have nU := hrU.rowfar (q := wn35.heap.size) (hneU gU 0 (by omega) rfl) #[.int .i64 r, .slice (some ⟨gI, 0, none⟩) 8 cI, .slice (some ⟨gU, 0, none⟩) 64 cU]
        refine storeD 15 rfl rfl rfl 26 _ _ rfl (wn35.heap.size) #[.int .i64 r, .slice (some ⟨gI, 0, none⟩) 8 cI, .slice (some ⟨gU, 0, none⟩) 64 cU] rfl rfl 26 _ kT (by kernel_rfl) rfl (all_oneCell_toArray (fun v hv => by simp at hv; rcases hv with rfl | rfl | rfl <;> rfl)) ⟨kS2, ?_⟩
        generalize World.setRow wa51 (wn35.heap.size) #[.int .i64 r, .slice (some ⟨gI, 0, none⟩) 8 cI, .slice (some ⟨gU, 0, none⟩) 64 cU] = wz52 at *
        try simp only [Act.put, List.setIfInBounds_toArray, List.set_cons_zero, List.set_cons_succ]
        refine wpAnyH_done (by kernel_rfl) ?_ _
        try go_frame
        go_wp2_with fail
        go_meet
        exact ⟨_, _, _, _, _, rfl, by omega, kN, nI, nU, hdIU gI 0 (by omega) rfl gU 0 (by omega) rfl, (hlI gI 0 (by omega) rfl).1, (hlU gU 0 (by omega) rfl).1, hBn⟩
    · skip
      refine valD 14 (some 3) rfl rfl rfl (hal _ _ _ rfl) ⟨kS9.alloc _, ?_⟩
      have kT := Bk.new wd #[.int .i64 0, .slice none 0 0, .slice none 0 0] 26
      replace kS9 := kS9.alloc (.cells #[.int .i64 0, .slice none 0 0, .slice none 0 0] 26)
      have hz_wn53 := hB.size
      replace hB := hB.alloc (by omega) (.cells #[.int .i64 0, .slice none 0 0, .slice none 0 0] 26)
      generalize hw_wn53 : wd.alloc (.cells #[.int .i64 0, .slice none 0 0, .slice none 0 0] 26) = wn53 at *
      try simp only [Act.put, List.setIfInBounds_toArray, List.set_cons_zero, List.set_cons_succ]
      refine wpAnyH_all (rs := [3, 8]) (by kernel_rfl) (by simp) (fun i hiR => ?_)
      simp only [List.mem_cons, List.not_mem_nil, or_false] at hiR
      rcases hiR with rfl | rfl
      · skip
        refine valD 3 (some 7) rfl rfl rfl (hbs3 _ _ _ rfl) ⟨kS9.alloc _, ?_⟩
        replace kS9 := kS9.alloc (.cells #[] 3)
        replace kT := kT.alloc (.cells #[] 3)
        have hz_wn54 := hB.size
        replace hB := hB.alloc (by omega) (.cells #[] 3)
        generalize hw_wn54 : wn53.alloc (.cells #[] 3) = wn54 at *
        try simp only [Act.put, List.setIfInBounds_toArray, List.set_cons_zero, List.set_cons_succ]
        refine wpAnyH_all (rs := [7, 8]) (by kernel_rfl) (by simp) (fun i hiR => ?_)
        simp only [List.mem_cons, List.not_mem_nil, or_false] at hiR
        rcases hiR with rfl | rfl
        · skip
          have hTq := kT.lt
          refine appD 7 (some 11) rfl rfl rfl (fun K' hK' => step_append_ownD rfl _ _ 23 rfl 3 i0 (.int .i64 0) 8 Tryd.underlying23 hi hz0 hz1 hz2 rfl _ rfl L 8 cl (iw ls) rfl (hRd_I _ hB) (oneCells_int _ _) (by simp only [maxLen]; omega) (by omega) (by omega) ?_)
          intro gI cI wa55 hrI hlI hcI hb_wa55
          refine hK' _ _ ⟨kS9.to hb_wa55, ?_⟩
          have hneI := fun b off h0 e => (Nat.ne_of_lt (Nat.lt_of_lt_of_le hTq (hlI b off h0 e).1)).symm
          clear hTq
          replace kS9 := kS9.to hb_wa55
          replace kT := kT.to hb_wa55
          have hz_wa55 := hB.size
          replace hB := hB.trans (hb_wa55.mono (by omega))
          replace hlI := fun b off h0 e => And.intro (Nat.le_trans hz_wa55 (hlI b off h0 e).1) (hlI b off h0 e).2
          try simp only [Act.put, List.setIfInBounds_toArray, List.set_cons_zero, List.set_cons_succ]
          refine wpAnyH_all (rs := [8]) (by kernel_rfl) (by simp) (fun i hiR => ?_)
          obtain rfl : i = 8 := by simpa using hiR
          refine valD 8 (some 12) rfl rfl rfl (hbs8 _ _ _ rfl) ⟨kS9.alloc _, ?_⟩
          replace hlI := fun b off h0 e => And.intro (hlI b off h0 e).1 (Nat.lt_of_lt_of_le (hlI b off h0 e).2 (show wa55.heap.size ≤ (wa55.alloc (.cells #[] 55)).heap.size by rw [World.size_alloc]; omega))
          replace kS9 := kS9.alloc (.cells #[] 55)
          replace kT := kT.alloc (.cells #[] 55)
          replace hrI := hrI.alloc (.cells #[] 55)
          have hz_wn56 := hB.size
          replace hB := hB.alloc (by omega) (.cells #[] 55)
          generalize hw_wn56 : wa55.alloc (.cells #[] 55) = wn56 at *
          try simp only [Act.put, List.setIfInBounds_toArray, List.set_cons_zero, List.set_cons_succ]
          refine wpAnyH_all (rs := [12]) (by kernel_rfl) (by simp) (fun i hiR => ?_)
          obtain rfl : i = 12 := by simpa using hiR
          have hTq := kT.lt
          refine appD 12 (some 16) rfl rfl rfl (fun K' hK' => step_append_ownD rfl _ _ 24 rfl 55 j0 (.int .u64 0) 8 Tryd.underlying24 hj hy0 hy1 hy2 rfl _ rfl B 64 d (uw es) rfl (hRd_U _ hB) (oneCells_uw _) (by simp only [maxLen]; omega) (by omega) (by omega) ?_)
          intro gU cU wa57 hrU hlU hcU hb_wa57
          refine hK' _ _ ⟨kS9.to hb_wa57, ?_⟩
          have hdIU := fun b off h0 e b' off' h0' e' => Nat.ne_of_lt (Nat.lt_of_lt_of_le (hlI b off h0 e).2 (hlU b' off' h0' e').1)
          have hneU := fun b off h0 e => (Nat.ne_of_lt (Nat.lt_of_lt_of_le hTq (hlU b off h0 e).1)).symm
          clear hTq
          replace hlI := fun b off h0 e => And.intro (hlI b off h0 e).1 (Nat.lt_of_lt_of_le (hlI b off h0 e).2 hb_wa57.size)
          replace kS9 := kS9.to hb_wa57
          replace kT := kT.to hb_wa57
          replace hrI := hrI.to hb_wa57
          have hz_wa57 := hB.size
          replace hB := hB.trans (hb_wa57.mono (by omega))
          replace hlU := fun b off h0 e => And.intro (Nat.le_trans hz_wa57 (hlU b off h0 e).1) (hlU b off h0 e).2
          try simp only [Act.put, List.setIfInBounds_toArray, List.set_cons_zero, List.set_cons_succ]
          refine takeD 13 (some 17) (.agg #[.int .i64 r, .slice (some ⟨gI, 0, none⟩) 8 cI, .slice (some ⟨gU, 0, none⟩) 64 cU]) rfl rfl (by kernel_rfl) (by kernel_rfl) (by kernel_rfl) (fun _ _ _ h => h) (.inl ⟨rfl, fun w' hS => by go_simp⟩) kS9 ?_
          try simp only [Act.put, List.setIfInBounds_toArray, List.set_cons_zero, List.set_cons_succ]
          refine wpAnyH_all (rs := [15]) (by kernel_rfl) (by simp) (fun i hiR => ?_)
          obtain rfl : i = 15 := by simpa using hiR
          have kN := kT.row #[.int .i64 r, .slice (some ⟨gI, 0, none⟩) 8 cI, .slice (some ⟨gU, 0, none⟩) 64 cU]
          have kS2 := kS9.rowfar (show w.heap.size ≠ wd.heap.size by omega) #[.int .i64 r, .slice (some ⟨gI, 0, none⟩) 8 cI, .slice (some ⟨gU, 0, none⟩) 64 cU]
          have hBn := below_row hB (show w1.heap.size ≤ wd.heap.size by omega) #[.int .i64 r, .slice (some ⟨gI, 0, none⟩) 8 cI, .slice (some ⟨gU, 0, none⟩) 64 cU]
          have nI := hrI.rowfar (q := wd.heap.size) (hneI gI 0 (by omega) rfl) #[.int .i64 r, .slice (some ⟨gI, 0, none⟩) 8 cI, .slice (some ⟨gU, 0, none⟩) 64 cU]
          have nU := hrU.rowfar (q := wd.heap.size) (hneU gU 0 (by omega) rfl) #[.int .i64 r, .slice (some ⟨gI, 0, none⟩) 8 cI, .slice (some ⟨gU, 0, none⟩) 64 cU]
          refine storeD 15 rfl rfl rfl 26 _ _ rfl (wd.heap.size) #[.int .i64 r, .slice (some ⟨gI, 0, none⟩) 8 cI, .slice (some ⟨gU, 0, none⟩) 64 cU] rfl rfl 26 _ kT (by kernel_rfl) rfl (all_oneCell_toArray (fun v hv => by simp at hv; rcases hv with rfl | rfl | rfl <;> rfl)) ⟨kS2, ?_⟩
          generalize World.setRow wa57 (wd.heap.size) #[.int .i64 r, .slice (some ⟨gI, 0, none⟩) 8 cI, .slice (some ⟨gU, 0, none⟩) 64 cU] = wz58 at *
          try simp only [Act.put, List.setIfInBounds_toArray, List.set_cons_zero, List.set_cons_succ]
          refine wpAnyH_done (by kernel_rfl) ?_ _
          try go_frame
          go_wp2_with fail
          go_meet
          exact ⟨_, _, _, _, _, rfl, by omega, kN, nI, nU, hdIU gI 0 (by omega) rfl gU 0 (by omega) rfl, (hlI gI 0 (by omega) rfl).1, (hlU gU 0 (by omega) rfl).1, hBn⟩
        · skip
          refine valD 8 (some 12) rfl rfl rfl (hbs8 _ _ _ rfl) ⟨kS9.alloc _, ?_⟩
          replace kS9 := kS9.alloc (.cells #[] 55)
          replace kT := kT.alloc (.cells #[] 55)
          have hz_wn59 := hB.size
          replace hB := hB.alloc (by omega) (.cells #[] 55)
          generalize hw_wn59 : wn54.alloc (.cells #[] 55) = wn59 at *
          try simp only [Act.put, List.setIfInBounds_toArray, List.set_cons_zero, List.set_cons_succ]
          refine wpAnyH_all (rs := [7]) (by kernel_rfl) (by simp) (fun i hiR => ?_)
          obtain rfl : i = 7 := by simpa using hiR
          have hTq := kT.lt
          refine appD 7 (some 11) rfl rfl rfl (fun K' hK' => step_append_ownD rfl _ _ 23 rfl 3 i0 (.int .i64 0) 8 Tryd.underlying23 hi hz0 hz1 hz2 rfl _ rfl L 8 cl (iw ls) rfl (hRd_I _ hB) (oneCells_int _ _) (by simp only [maxLen]; omega) (by omega) (by omega) ?_)
          intro gI cI wa60 hrI hlI hcI hb_wa60
          refine hK' _ _ ⟨kS9.to hb_wa60, ?_⟩
          have hneI := fun b off h0 e => (Nat.ne_of_lt (Nat.lt_of_lt_of_le hTq (hlI b off h0 e).1)).symm
          clear hTq
          replace kS9 := kS9.to hb_wa60
          replace kT := kT.to hb_wa60
          have hz_wa60 := hB.size
          replace hB := hB.trans (hb_wa60.mono (by omega))
          replace hlI := fun b off h0 e => And.intro (Nat.le_trans hz_wa60 (hlI b off h0 e).1) (hlI b off h0 e).2
          try simp only [Act.put, List.setIfInBounds_toArray, List.set_cons_zero, List.set_cons_succ]
          refine wpAnyH_all (rs := [12]) (by kernel_rfl) (by simp) (fun i hiR => ?_)
          obtain rfl : i = 12 := by simpa using hiR
          have hTq := kT.lt
          refine appD 12 (some 16) rfl rfl rfl (fun K' hK' => step_append_ownD rfl _ _ 24 rfl 55 j0 (.int .u64 0) 8 Tryd.underlying24 hj hy0 hy1 hy2 rfl _ rfl B 64 d (uw es) rfl (hRd_U _ hB) (oneCells_uw _) (by simp only [maxLen]; omega) (by omega) (by omega) ?_)
          intro gU cU wa61 hrU hlU hcU hb_wa61
          refine hK' _ _ ⟨kS9.to hb_wa61, ?_⟩
          have hdIU := fun b off h0 e b' off' h0' e' => Nat.ne_of_lt (Nat.lt_of_lt_of_le (hlI b off h0 e).2 (hlU b' off' h0' e').1)
          have hneU := fun b off h0 e => (Nat.ne_of_lt (Nat.lt_of_lt_of_le hTq (hlU b off h0 e).1)).symm
          clear hTq
          replace hlI := fun b off h0 e => And.intro (hlI b off h0 e).1 (Nat.lt_of_lt_of_le (hlI b off h0 e).2 hb_wa61.size)
          replace kS9 := kS9.to hb_wa61
          replace kT := kT.to hb_wa61
          replace hrI := hrI.to hb_wa61
          have hz_wa61 := hB.size
          replace hB := hB.trans (hb_wa61.mono (by omega))
          replace hlU := fun b off h0 e => And.intro (Nat.le_trans hz_wa61 (hlU b off h0 e).1) (hlU b off h0 e).2
          try simp only [Act.put, List.setIfInBounds_toArray, List.set_cons_zero, List.set_cons_succ]
          refine takeD 13 (some 17) (.agg #[.int .i64 r, .slice (some ⟨gI, 0, none⟩) 8 cI, .slice (some ⟨gU, 0, none⟩) 64 cU]) rfl rfl (by kernel_rfl) (by kernel_rfl) (by kernel_rfl) (fun _ _ _ h => h) (.inl ⟨rfl, fun w' hS => by go_simp⟩) kS9 ?_
          try simp only [Act.put, List.setIfInBounds_toArray, List.set_cons_zero, List.set_cons_succ]
          refine wpAnyH_all (rs := [15]) (by kernel_rfl) (by simp) (fun i hiR => ?_)
          obtain rfl : i = 15 := by simpa using hiR
          have kN := kT.row #[.int .i64 r, .slice (some ⟨gI, 0, none⟩) 8 cI, .slice (some ⟨gU, 0, none⟩) 64 cU]
          have kS2 := kS9.rowfar (show w.heap.size ≠ wd.heap.size by omega) #[.int .i64 r, .slice (some ⟨gI, 0, none⟩) 8 cI, .slice (some ⟨gU, 0, none⟩) 64 cU]
          have hBn := below_row hB (show w1.heap.size ≤ wd.heap.size by omega) #[.int .i64 r, .slice (some ⟨gI, 0, none⟩) 8 cI, .slice (some ⟨gU, 0, none⟩) 64 cU]
          have nI := hrI.rowfar (q := wd.heap.size) (hneI gI 0 (by omega) rfl) #[.int .i64 r, .slice (some ⟨gI, 0, none⟩) 8 cI, .slice (some ⟨gU, 0, none⟩) 64 cU]
          have nU := hrU.rowfar (q := wd.heap.size) (hneU gU 0 (by omega) rfl) #[.int .i64 r, .slice (some ⟨gI, 0, none⟩) 8 cI, .slice (some ⟨gU, 0, none⟩) 64 cU]
          refine storeD 15 rfl rfl rfl 26 _ _ rfl (wd.heap.size) #[.int .i64 r, .slice (some ⟨gI, 0, none⟩) 8 cI, .slice (some ⟨gU, 0, none⟩) 64 cU] rfl rfl 26 _ kT (by kernel_rfl) rfl (all_oneCell_toArray (fun v hv => by simp at hv; rcases hv with rfl | rfl | rfl <;> rfl)) ⟨kS2, ?_⟩
          generalize World.setRow wa61 (wd.heap.size) #[.int .i64 r, .slice (some ⟨gI, 0, none⟩) 8 cI, .slice (some ⟨gU, 0, none⟩) 64 cU] = wz62 at *
          try simp only [Act.put, List.setIfInBounds_toArray, List.set_cons_zero, List.set_cons_succ]
          refine wpAnyH_done (by kernel_rfl) ?_ _
          try go_frame
          go_wp2_with fail
          go_meet
          exact ⟨_, _, _, _, _, rfl, by omega, kN, nI, nU, hdIU gI 0 (by omega) rfl gU 0 (by omega) rfl, (hlI gI 0 (by omega) rfl).1, (hlU gU 0 (by omega) rfl).1, hBn⟩
      · skip
        refine valD 8 (some 12) rfl rfl rfl (hbs8 _ _ _ rfl) ⟨kS9.alloc _, ?_⟩
        replace kS9 := kS9.alloc (.cells #[] 55)
        replace kT := kT.alloc (.cells #[] 55)
        have hz_wn63 := hB.size
        replace hB := hB.alloc (by omega) (.cells #[] 55)
        generalize hw_wn63 : wn53.alloc (.cells #[] 55) = wn63 at *
        try simp only [Act.put, List.setIfInBounds_toArray, List.set_cons_zero, List.set_cons_succ]
        refine wpAnyH_all (rs := [3]) (by kernel_rfl) (by simp) (fun i hiR => ?_)
        obtain rfl : i = 3 := by simpa using hiR
        refine valD 3 (some 7) rfl rfl rfl (hbs3 _ _ _ rfl) ⟨kS9.alloc _, ?_⟩
        replace kS9 := kS9.alloc (.cells #[] 3)
        replace kT := kT.alloc (.cells #[] 3)
        have hz_wn64 := hB.size
        replace hB := hB.alloc (by omega) (.cells #[] 3)
        generalize hw_wn64 : wn63.alloc (.cells #[] 3) = wn64 at *
        try simp only [Act.put, List.setIfInBounds_toArray, List.set_cons_zero, List.set_cons_succ]
        refine wpAnyH_all (rs := [7]) (by kernel_rfl) (by simp) (fun i hiR => ?_)
        obtain rfl : i = 7 := by simpa using hiR
        have hTq := kT.lt
        refine appD 7 (some 11) rfl rfl rfl (fun K' hK' => step_append_ownD rfl _ _ 23 rfl 3 i0 (.int .i64 0) 8 Tryd.underlying23 hi hz0 hz1 hz2 rfl _ rfl L 8 cl (iw ls) rfl (hRd_I _ hB) (oneCells_int _ _) (by simp only [maxLen]; omega) (by omega) (by omega) ?_)
        intro gI cI wa65 hrI hlI hcI hb_wa65
        refine hK' _ _ ⟨kS9.to hb_wa65, ?_⟩
        have hneI := fun b off h0 e => (Nat.ne_of_lt (Nat.lt_of_lt_of_le hTq (hlI b off h0 e).1)).symm
        clear hTq
        replace kS9 := kS9.to hb_wa65
        replace kT := kT.to hb_wa65
        have hz_wa65 := hB.size
        replace hB := hB.trans (hb_wa65.mono (by omega))
        replace hlI := fun b off h0 e => And.intro (Nat.le_trans hz_wa65 (hlI b off h0 e).1) (hlI b off h0 e).2
        try simp only [Act.put, List.setIfInBounds_toArray, List.set_cons_zero, List.set_cons_succ]
        refine wpAnyH_all (rs := [12]) (by kernel_rfl) (by simp) (fun i hiR => ?_)
        obtain rfl : i = 12 := by simpa using hiR
        have hTq := kT.lt
        refine appD 12 (some 16) rfl rfl rfl (fun K' hK' => step_append_ownD rfl _ _ 24 rfl 55 j0 (.int .u64 0) 8 Tryd.underlying24 hj hy0 hy1 hy2 rfl _ rfl B 64 d (uw es) rfl (hRd_U _ hB) (oneCells_uw _) (by simp only [maxLen]; omega) (by omega) (by omega) ?_)
        intro gU cU wa66 hrU hlU hcU hb_wa66
        refine hK' _ _ ⟨kS9.to hb_wa66, ?_⟩
        have hdIU := fun b off h0 e b' off' h0' e' => Nat.ne_of_lt (Nat.lt_of_lt_of_le (hlI b off h0 e).2 (hlU b' off' h0' e').1)
        have hneU := fun b off h0 e => (Nat.ne_of_lt (Nat.lt_of_lt_of_le hTq (hlU b off h0 e).1)).symm
        clear hTq
        replace hlI := fun b off h0 e => And.intro (hlI b off h0 e).1 (Nat.lt_of_lt_of_le (hlI b off h0 e).2 hb_wa66.size)
        replace kS9 := kS9.to hb_wa66
        replace kT := kT.to hb_wa66
        replace hrI := hrI.to hb_wa66
        have hz_wa66 := hB.size
        replace hB := hB.trans (hb_wa66.mono (by omega))
        replace hlU := fun b off h0 e => And.intro (Nat.le_trans hz_wa66 (hlU b off h0 e).1) (hlU b off h0 e).2
        try simp only [Act.put, List.setIfInBounds_toArray, List.set_cons_zero, List.set_cons_succ]
        refine takeD 13 (some 17) (.agg #[.int .i64 r, .slice (some ⟨gI, 0, none⟩) 8 cI, .slice (some ⟨gU, 0, none⟩) 64 cU]) rfl rfl (by kernel_rfl) (by kernel_rfl) (by kernel_rfl) (fun _ _ _ h => h) (.inl ⟨rfl, fun w' hS => by go_simp⟩) kS9 ?_
        try simp only [Act.put, List.setIfInBounds_toArray, List.set_cons_zero, List.set_cons_succ]
        refine wpAnyH_all (rs := [15]) (by kernel_rfl) (by simp) (fun i hiR => ?_)
        obtain rfl : i = 15 := by simpa using hiR
        have kN := kT.row #[.int .i64 r, .slice (some ⟨gI, 0, none⟩) 8 cI, .slice (some ⟨gU, 0, none⟩) 64 cU]
        have kS2 := kS9.rowfar (show w.heap.size ≠ wd.heap.size by omega) #[.int .i64 r, .slice (some ⟨gI, 0, none⟩) 8 cI, .slice (some ⟨gU, 0, none⟩) 64 cU]
        have hBn := below_row hB (show w1.heap.size ≤ wd.heap.size by omega) #[.int .i64 r, .slice (some ⟨gI, 0, none⟩) 8 cI, .slice (some ⟨gU, 0, none⟩) 64 cU]
        have nI := hrI.rowfar (q := wd.heap.size) (hneI gI 0 (by omega) rfl) #[.int .i64 r, .slice (some ⟨gI, 0, none⟩) 8 cI, .slice (some ⟨gU, 0, none⟩) 64 cU]
        have nU := hrU.rowfar (q := wd.heap.size) (hneU gU 0 (by omega) rfl) #[.int .i64 r, .slice (some ⟨gI, 0, none⟩) 8 cI, .slice (some ⟨gU, 0, none⟩) 64 cU]
        refine storeD 15 rfl rfl rfl 26 _ _ rfl (wd.heap.size) #[.int .i64 r, .slice (some ⟨gI, 0, none⟩) 8 cI, .slice (some ⟨gU, 0, none⟩) 64 cU] rfl rfl 26 _ kT (by kernel_rfl) rfl (all_oneCell_toArray (fun v hv => by simp at hv; rcases hv with rfl | rfl | rfl <;> rfl)) ⟨kS2, ?_⟩
        generalize World.setRow wa66 (wd.heap.size) #[.int .i64 r, .slice (some ⟨gI, 0, none⟩) 8 cI, .slice (some ⟨gU, 0, none⟩) 64 cU] = wz67 at *
        try simp only [Act.put, List.setIfInBounds_toArray, List.set_cons_zero, List.set_cons_succ]
        refine wpAnyH_done (by kernel_rfl) ?_ _
        try go_frame
        go_wp2_with fail
        go_meet
        exact ⟨_, _, _, _, _, rfl, by omega, kN, nI, nU, hdIU gI 0 (by omega) rfl gU 0 (by omega) rfl, (hlI gI 0 (by omega) rfl).1, (hlU gU 0 (by omega) rfl).1, hBn⟩
  case rest =>
    obtain ⟨q, gI, cI, gU, cU, rfl, hq0', kT, hrI, hrU, hIU, hlI, hlU, hcC⟩ := hcut
    have hI9 := hrI.lt
    have hU9 := hrU.lt
    go_upto_region 2 with fail
    have hbs : ∀ (W : World) (ev : Operand → Value) (o : Oper), o.op = Op.buildSlice 22 0 #[] → (execOp ev o).run Tryd.prog W = .ok (.value (.slice (some ⟨W.heap.size, 0, none⟩) 0 0)) (W.alloc (.cells #[] 81)) := fun W ev o ho => by unfold execOp; simp [ho, go_sem]
    have hAc := hA1.below hcC (Nat.le_refl _)
    have hszC := hcC.size
    have hqw := kT.lt
    have hRd_R : ∀ W, Below wc.heap.size wc W → Rd W 2 A rs.length (flat2 .i64 rs) := fun W h => hAc.below h (Nat.le_refl _)
    have hB := below_drew (Below.refl wc.heap.size wc)
    have kS9 := (kS.to hcC).drew
    have kR9 := (kR.to hcC).drew
    have kT9 := kT.drew
    replace hrI := hrI.to (below_drew (Below.refl _ _))
    replace hrU := hrU.to (below_drew (Below.refl _ _))
    have hsd : wc.heap.size ≤ wc.drew.heap.size := Nat.le_refl _
    clear kS kR kT s1 s2 s3
    have hu3 : (Tryd.prog.underlying 26).map (·.isRow) = some true := by kernel_rfl
    obtain ⟨d3, hu3, hd3⟩ := Option.map_eq_some_iff.1 hu3
    generalize hw_d : wc.drew = wd at *
    refine wp_region_held_drew (S := fun w' => Bk w' w.heap.size #[.slice A rs.length c, .int .i64 r, .slice L 8 cl, .slice B 64 d] 28 ∧ Bk w' q #[.int .i64 r, .slice (some ⟨gI, 0, none⟩) 8 cI, .slice (some ⟨gU, 0, none⟩) 64 cU] 26) (by kernel_rfl) (by first | exact ⟨kS9, kT9⟩ | (rw [hw_d]; exact ⟨kS9, kT9⟩)) (fun _ => ?_)
    try rw [hw_d]
    refine takeD 1 (some 19) (.pointer (some ⟨w.heap.size, 0, none⟩)) rfl rfl (by kernel_rfl) (by kernel_rfl) (by kernel_rfl) (fun _ _ _ h => h) (.inl ⟨rfl, fun w' hS => by go_simp⟩) ⟨kS9, kT9⟩ ?_
    try simp only [Act.put, List.setIfInBounds_toArray, List.set_cons_zero, List.set_cons_succ]
    refine takeD 2 (some 20) (.slice A rs.length c) rfl rfl (by kernel_rfl) (by kernel_rfl) (by kernel_rfl) (fun _ _ _ h => h) (.inl ⟨rfl, fun w' hS => by have hc := hS.1.cell; go_simp⟩) ⟨kS9, kT9⟩ ?_
    try simp only [Act.put, List.setIfInBounds_toArray, List.set_cons_zero, List.set_cons_succ]
    refine takeD 4 (some 22) (.agg #[.int .i64 r, .slice (some ⟨gI, 0, none⟩) 8 cI, .slice (some ⟨gU, 0, none⟩) 64 cU]) rfl rfl (by kernel_rfl) (by kernel_rfl) (by kernel_rfl) (fun _ _ _ h => h) (yieldsIf_load_mid (by rfl) 26 _ rfl q 0 rfl [.int .i64 r, .slice (some ⟨gI, 0, none⟩) 8 cI, .slice (some ⟨gU, 0, none⟩) 64 cU] d3 (fun w' e => e.2.range) hu3 hd3 (by kernel_rfl)) ⟨kS9, kT9⟩ ?_
    try simp only [Act.put, List.setIfInBounds_toArray, List.set_cons_zero, List.set_cons_succ]
    refine wpAnyH_all (rs := [0]) (by kernel_rfl) (by simp) (fun i hiR => ?_)
    obtain rfl : i = 0 := by simpa using hiR
    refine valD 0 (some 18) rfl rfl rfl (hbs _ _ _ rfl) ⟨⟨kS9.alloc _, kT9.alloc _⟩, ?_⟩
    replace kS9 := kS9.alloc (.cells #[] 81)
    replace kT9 := kT9.alloc (.cells #[] 81)
    replace kR9 := kR9.alloc (.cells #[] 81)
    replace hrI := hrI.alloc (.cells #[] 81)
    replace hrU := hrU.alloc (.cells #[] 81)
    have hz_wn1 := hB.size
    replace hB := hB.alloc (by omega) (.cells #[] 81)
    generalize hw_wn1 : wd.alloc (.cells #[] 81) = wn1 at *
    try simp only [Act.put, List.setIfInBounds_toArray, List.set_cons_zero, List.set_cons_succ]
    refine wpAnyH_all (rs := [3]) (by kernel_rfl) (by simp) (fun i hiR => ?_)
    obtain rfl : i = 3 := by simpa using hiR
    refine appD 3 (some 21) rfl rfl rfl (fun K' hK' => step_append_anyD rfl _ _ 22 rfl 81 q0 (.agg #[.int .i64 0, .int .i64 0]) 2 16 Tryd.underlying22 hq hq0 hq1 hq2 rfl (by decide) _ rfl A rs.length c (flat2 .i64 rs) rfl (hRd_R _ hB) (oneCells_flat2 _ _) (by simp only [maxLen]; omega) (by omega) ?_)
    intro AR cR wa2 hrR hlR hcR hb_wa2
    refine hK' _ _ ⟨⟨kS9.to hb_wa2, kT9.to hb_wa2⟩, ?_⟩
    replace kS9 := kS9.to hb_wa2
    replace kT9 := kT9.to hb_wa2
    replace kR9 := kR9.to hb_wa2
    replace hrI := hrI.to hb_wa2
    replace hrU := hrU.to hb_wa2
    have hz_wa2 := hB.size
    replace hB := hB.trans (hb_wa2.mono (by omega))
    replace hlR := fun b off h0 e => And.intro (Nat.le_trans hz_wa2 (hlR b off h0 e).1) (hlR b off h0 e).2
    try simp only [Act.put, List.setIfInBounds_toArray, List.set_cons_zero, List.set_cons_succ]
    refine takeD 5 (some 23) (.agg #[.slice AR rs.length cR, .int .i64 r, .slice (some ⟨gI, 0, none⟩) 8 cI, .slice (some ⟨gU, 0, none⟩) 64 cU]) rfl rfl (by kernel_rfl) (by kernel_rfl) (by kernel_rfl) (fun _ _ _ h => h) (.inl ⟨rfl, fun w' hS => by go_simp⟩) ⟨kS9, kT9⟩ ?_
    try simp only [Act.put, List.setIfInBounds_toArray, List.set_cons_zero, List.set_cons_succ]
    refine wpAnyH_all (rs := [6]) (by kernel_rfl) (by simp) (fun i hiR => ?_)
    obtain rfl : i = 6 := by simpa using hiR
    have kN := kR9.row #[.slice AR rs.length cR, .int .i64 r, .slice (some ⟨gI, 0, none⟩) 8 cI, .slice (some ⟨gU, 0, none⟩) 64 cU]
    have kS2 := kS9.rowfar (show w.heap.size ≠ w.heap.size + 1 by omega) #[.slice AR rs.length cR, .int .i64 r, .slice (some ⟨gI, 0, none⟩) 8 cI, .slice (some ⟨gU, 0, none⟩) 64 cU]
    have kT2 := kT9.rowfar (show q ≠ w.heap.size + 1 by omega) #[.slice AR rs.length cR, .int .i64 r, .slice (some ⟨gI, 0, none⟩) 8 cI, .slice (some ⟨gU, 0, none⟩) 64 cU]
    have hBn := below_row (hB1.trans ((hcC.trans (hB.mono hszC)).mono (by omega))) (show w.heap.size ≤ w.heap.size + 1 by omega) #[.slice AR rs.length cR, .int .i64 r, .slice (some ⟨gI, 0, none⟩) 8 cI, .slice (some ⟨gU, 0, none⟩) 64 cU]
    have nR := hrR.rowfar (g := w.heap.size + 1) (fun b off h0 e => by have := (hlR b off h0 e).1; omega) #[.slice AR rs.length cR, .int .i64 r, .slice (some ⟨gI, 0, none⟩) 8 cI, .slice (some ⟨gU, 0, none⟩) 64 cU]
    have nI := hrI.rowfar (q := w.heap.size + 1) (by omega) #[.slice AR rs.length cR, .int .i64 r, .slice (some ⟨gI, 0, none⟩) 8 cI, .slice (some ⟨gU, 0, none⟩) 64 cU]
    have nU := hrU.rowfar (q := w.heap.size + 1) (by omega) #[.slice AR rs.length cR, .int .i64 r, .slice (some ⟨gI, 0, none⟩) 8 cI, .slice (some ⟨gU, 0, none⟩) 64 cU]
    refine storeD 6 rfl rfl rfl 28 _ _ rfl (w.heap.size + 1) #[.slice AR rs.length cR, .int .i64 r, .slice (some ⟨gI, 0, none⟩) 8 cI, .slice (some ⟨gU, 0, none⟩) 64 cU] rfl rfl 28 _ kR9 (by kernel_rfl) rfl (all_oneCell_toArray (fun v hv => by simp at hv; rcases hv with rfl | rfl | rfl | rfl <;> rfl)) ⟨⟨kS2, kT2⟩, ?_⟩
    generalize World.setRow wa2 (w.heap.size + 1) #[.slice AR rs.length cR, .int .i64 r, .slice (some ⟨gI, 0, none⟩) 8 cI, .slice (some ⟨gU, 0, none⟩) 64 cU] = wz3 at *
    try simp only [Act.put, List.setIfInBounds_toArray, List.set_cons_zero, List.set_cons_succ]
    refine wpAnyH_done (by kernel_rfl) ?_ _
    simp only [Exit.then]
    try go_at_K
    try go_frame
    try go_wp2_with fail
    exact bodyPost_ret (kN.res1 (P := Tryd.prog) rfl _ rfl (by kernel_rfl) (by kernel_rfl)) rfl ⟨_, _, _, _, _, _, rfl, nR, nI, nU, hIU, by omega, by omega, fun b off h0 e => by have := (hlR b off h0 e).1; exact ⟨by omega, by omega, by omega⟩, hBn⟩
end Go.Proofs.YtmjahjdnfijpkaaDoor
/- The reference of chapter 28: Own. -/
namespace Go.Proofs.YtmjahjdnfijpkaaDoor
open Go Go.Proofs Go.RowKit
set_option linter.unusedSimpArgs false
set_option linter.unusedVariables false
set_option maxRecDepth 100000

theorem pack_of {k n : Int} {a b c : Bool} (h : chk k n a b c = 0) : packR k n a b c = (((packN k.toNat n.toNat a b c : Nat) : Int), 0) := by
  unfold packR
  rw [if_neg (by simp [h])]
theorem fow_pack {x : Nat} {n : Int} {a b c : Bool} (h : unpR x = ((1, n, a, b, c), 0)) : packR 1 n true false c = (((packN 1 n.toNat true false c : Nat) : Int), 0) := by
  have hc := unpR_ok x (by rw [h])
  rw [h] at hc
  simp only at hc
  obtain ⟨_, h0, h1⟩ := chk_ok _ _ _ _ _ hc
  exact pack_of (chk_pr n true false c h0 h1 (by decide))
theorem rd_ltY {w : World} {sz n : Nat} {A : Option Addr} {xs : List Value} (h : Rd w sz A n xs) : ∀ b off, 0 < n → A = some ⟨b, off, none⟩ → b < w.heap.size := fun b off h0 he => by
  obtain ⟨b', off', e', hb', _⟩ := h.2 h0
  rw [he] at e'
  injection e' with e'
  injection e' with e'
  omega
theorem set_atY {es : List Nat} {k : Nat} (hk : k < es.length) : es.set k (es.getD k 0) = es := by
  apply List.ext_getElem?
  intro i
  rw [List.getElem?_set]
  by_cases hi : k = i
  · subst hi
    rw [if_pos rfl, if_pos hk, List.getD_eq_getElem?_getD, List.getElem?_eq_getElem hk]
    rfl
  · rw [if_neg hi]
/-- The loop over the counts, where an error stands already. -/
def RowA (z : Int) (w2 : World) (e i : Value) (wr : World) : Prop := i = .int .i64 0 ∧ e = .int .i64 z ∧ wr = w2
/-- The loop over the counts. -/
def RowC (cs : List Int) (w2 : World) (e i : Value) (wr : World) : Prop := ∃ k : Nat, k ≤ 256 ∧ i = .int .i64 k ∧ ((e = .int .i64 0 ∧ ∀ j, j < k → 0 ≤ cs.getD j 0) ∨ e = .int .i64 15) ∧ wr = w2

set_option maxHeartbeats 4000000 in
theorem rOwn28_bad (rs : List (Int × Int)) (r : Int) (ls : List Int) (es : List Nat) (v : Value) (cs : List Int) (F : Option Addr) (cf : Nat) (w : World) (hv : SpV w v (rs, r, ls, es)) (hn : rs.length ≤ 1000000) (hs : wsmall es) (hF : Rd w 1 F cs.length (iw cs)) (hfn : cs.length ≤ 1000) (hE : fowE (rs, r, ls, es) cs ≠ 0) :
    Calls Tryd.prog 34 #[v, .slice F cs.length cf] w fun e w' => SpRes3 w w' sp0 0 (fowE (rs, r, ls, es) cs) e := by
  obtain ⟨A, c, L, cl, B, d, hve, hA, hLs, hB, hcc⟩ := id hv
  subst hve
  unfold spcV at hv ⊢
  simp only at hv ⊢ hA hLs hB hcc
  have kS := (Bk.new w #[.slice A rs.length c, .int .i64 r, .slice L ls.length cl, .slice B es.length d] 28).alloc (.cells #[.slice none 0 0, .int .i64 0, .slice none 0 0, .slice none 0 0] 28)
  have kR := Bk.new (w.alloc (.cells #[.slice A rs.length c, .int .i64 r, .slice L ls.length cl, .slice B es.length d] 28)) #[.slice none 0 0, .int .i64 0, .slice none 0 0, .slice none 0 0] 28
  simp only [World.size_alloc] at kR
  have hB1 := balloc (balloc (Below.refl _ w) (.cells #[.slice A rs.length c, .int .i64 r, .slice L ls.length cl, .slice B es.length d] 28)) (.cells #[.slice none 0 0, .int .i64 0, .slice none 0 0, .slice none 0 0] 28)
  generalize hw1 : (w.alloc (.cells #[.slice A rs.length c, .int .i64 r, .slice L ls.length cl, .slice B es.length d] 28)).alloc (.cells #[.slice none 0 0, .int .i64 0, .slice none 0 0, .slice none 0 0] 28) = w1 at *
  have HC := Lib.hid (rSpCheck_any rs r ls es _ _ (hv.to hB1) hn hs)
  obtain ⟨cS, fS, lS⟩ := kS.facts
  by_cases hS : spcE (rs, r, ls, es) = 0
  case neg =>
    have hE2 : fowE (rs, r, ls, es) cs = spcE (rs, r, ls, es) := by unfold fowE; rw [orE_l _ hS]
    rw [hE2]
    have hd : (spcE (rs, r, ls, es) != 0) = true := by simpa using hS
    have hd2 : (spcE (rs, r, ls, es) == 0) = false := by simpa using hS
    generalize spcE (rs, r, ls, es) = z at *
    clear hE2 hE
    go_enter Tryd.func34, Tryd.ntmps34
    go_wp2_with fail
    refine HC.out.mono ?_
    rintro e w2 ⟨rfl, hb2⟩
    clear cS fS lS
    replace kS := kS.to hb2
    replace kR := kR.to hb2
    replace hB1 := bnext hB1 hb2
    clear hb2 hw1
    go_wp2_with fail
    go_loopw [7, 8] (fun e i wr => RowA z w2 e i wr) (fun _ _ _ => 0)
    case atStart => exact ⟨rfl, rfl, rfl⟩
    case round =>
      obtain ⟨rfl, rfl, rfl⟩ := hrel
      obtain ⟨cR, fR, lR⟩ := kR.facts
      go_wp2_with fail
      all_goals
        have kF := kR.put4 (.slice none 0 0) (.int .i64 0) (.slice none 0 0) (.slice none 0 0)
        have hBF := below_put4 hB1 (g := w.heap.size + 1) (by omega) (.slice none 0 0) (.int .i64 0) (.slice none 0 0) (.slice none 0 0)
        exact bodyPost_ret (kF.res3 (P := Tryd.prog) rfl _ rfl (by kernel_rfl) (by kernel_rfl)) rfl ⟨_, rfl, SpV.zero _, SLoc.zero _, hBF⟩
  have hE2 : fowE (rs, r, ls, es) cs = 15 := by
    unfold fowE at hE ⊢
    rw [orE_r _ hS] at hE ⊢
    split at hE
    · rename_i h; rw [if_pos h]
    · exact absurd rfl hE
  have hE3 : cs.length ≠ 256 ∨ ∃ x ∈ cs, x < 0 := by
    unfold fowE at hE
    rw [orE_r _ hS] at hE
    split at hE
    · rename_i h; exact h
    · exact absurd rfl hE
  rw [hE2]
  rw [hS] at HC
  clear hE hE2 hS
  by_cases hln : cs.length = 256
  case neg =>
    have hd : ¬ (cs.length : Int) = 256 := by omega
    have hd2 : ((cs.length : Int) != 256) = true := by simpa using hd
    clear hE3
    go_enter Tryd.func34, Tryd.ntmps34
    go_wp2_with fail
    refine HC.out.mono ?_
    rintro e w2 ⟨rfl, hb2⟩
    clear cS fS lS
    replace kS := kS.to hb2
    replace kR := kR.to hb2
    replace hB1 := bnext hB1 hb2
    clear hb2 hw1
    go_wp2_with fail
    go_loopw [7, 8] (fun e i wr => RowA 15 w2 e i wr) (fun _ _ _ => 0)
    case atStart => exact ⟨rfl, rfl, rfl⟩
    case round =>
      obtain ⟨rfl, rfl, rfl⟩ := hrel
      obtain ⟨cR, fR, lR⟩ := kR.facts
      go_wp2_with fail
      all_goals
        have kF := kR.put4 (.slice none 0 0) (.int .i64 0) (.slice none 0 0) (.slice none 0 0)
        have hBF := below_put4 hB1 (g := w.heap.size + 1) (by omega) (.slice none 0 0) (.int .i64 0) (.slice none 0 0) (.slice none 0 0)
        exact bodyPost_ret (kF.res3 (P := Tryd.prog) rfl _ rfl (by kernel_rfl) (by kernel_rfl)) rfl ⟨_, rfl, SpV.zero _, SLoc.zero _, hBF⟩
  have hneg : ∃ x ∈ cs, x < 0 := by
    rcases hE3 with h | h
    · exact absurd hln h
    · exact h
  have HNG : Hid (¬ ∀ k, k < 256 → 0 ≤ cs.getD k 0) := Lib.hid (fun h => fow_pos (by rw [hln]; exact h) hneg)
  rw [hln] at hF ⊢
  have HF := Lib.hid hF
  clear hE3 hneg hln hF
  go_enter Tryd.func34, Tryd.ntmps34
  go_wp2_with fail
  refine HC.out.mono ?_
  rintro e w2 ⟨rfl, hb2⟩
  clear cS fS lS
  replace kS := kS.to hb2
  replace kR := kR.to hb2
  replace hB1 := bnext hB1 hb2
  clear hb2 hw1
  go_wp2_with fail
  go_loopw [7, 8] (fun e i wr => RowC cs w2 e i wr) (fun e i _ => 256 - (intOf i).toNat)
  case atStart => exact ⟨0, by omega, rfl, .inl ⟨rfl, fun j hj => absurd hj (by omega)⟩, rfl⟩
  case round =>
    obtain ⟨k, hk, rfl, he, rfl⟩ := hrel
    rcases he with ⟨rfl, hpos⟩ | rfl
    case inr =>
      obtain ⟨cR, fR, lR⟩ := kR.facts
      go_wp2_with fail
      all_goals
        have kF := kR.put4 (.slice none 0 0) (.int .i64 0) (.slice none 0 0) (.slice none 0 0)
        have hBF := below_put4 hB1 (g := w.heap.size + 1) (by omega) (.slice none 0 0) (.int .i64 0) (.slice none 0 0) (.slice none 0 0)
        exact bodyPost_ret (kF.res3 (P := Tryd.prog) rfl _ rfl (by kernel_rfl) (by kernel_rfl)) rfl ⟨_, rfl, SpV.zero _, SLoc.zero _, hBF⟩
    by_cases hlt : k < 256
    · obtain ⟨g, off, z, rfl, hg, hz, hc⟩ := (HF.out.below hB1 (Nat.le_refl _)).numb hlt
      have hkI : (k : Int) < 256 := by omega
      by_cases hz0 : z < 0
      · have hd : decide (z < 0) = true := decide_eq_true hz0
        clear hpos hz
        go_wp2_with fail
        go_roundw
        case rel => exact ⟨k + 1, by omega, by go_num, .inr rfl, rfl⟩
        case measure => simp [intOf]; omega
      · have hd : decide (z < 0) = false := decide_eq_false hz0
        have HP2 : Hid (∀ j, j < k + 1 → 0 ≤ cs.getD j 0) := Lib.hid (fun j hj => by
          rcases Nat.lt_or_ge j k with h | h
          · exact hpos j h
          · obtain rfl : j = k := by omega
            rw [hz]
            omega)
        clear hpos hz
        go_wp2_with fail
        go_roundw
        case rel => exact ⟨k + 1, by omega, by go_num, .inl ⟨rfl, HP2.out⟩, rfl⟩
        case measure => simp [intOf]; omega
    · obtain rfl : k = 256 := by omega
      exact absurd hpos HNG.out
/-- Between two entries of the reference's Own. -/
def FroI (rs : List (Int × Int)) (r : Int) (ls : List Int) (cs : List Int) (es : List Nat) (O lo : Nat) (AR : Option Addr) (cR gA cA gB cB : Nat) (w5 : World) (n i : Value) (wr : World) : Prop := ∃ k : Nat, k ≤ 64 ∧ i = .int .i64 k ∧ n = .int .i64 (fowN es cs k : Nat) ∧ Bk wr O #[.slice AR rs.length cR, .int .i64 r, .slice (some ⟨gA, 0, none⟩) 8 cA, .slice (some ⟨gB, 0, none⟩) 64 cB] 28 ∧ Rd wr 2 AR rs.length (flat2 .i64 rs) ∧ RowO wr 3 gA 8 cA (iw ls) ∧ RowO wr 55 gB 64 cB (uw (mapK (fowW cs) es k)) ∧ Below lo w5 wr ∧ w5.heap.size ≤ wr.heap.size

set_option maxHeartbeats 8000000 in
theorem rOwn28_ok (rs : List (Int × Int)) (r : Int) (ls : List Int) (es : List Nat) (v : Value) (cs : List Int) (F : Option Addr) (cf : Nat) (w : World) (hv : SpV w v (rs, r, ls, es)) (hn : rs.length ≤ 1000000) (hs : wsmall es) (hF : Rd w 1 F cs.length (iw cs)) (hE : fowE (rs, r, ls, es) cs = 0) :
    Calls Tryd.prog 34 #[v, .slice F cs.length cf] w fun e w' => SpRes3 w w' (rs, r, ls, es.map (fowW cs)) (fowN es cs 64 : Nat) 0 e := by
  obtain ⟨A, c, L, cl, B, d, hve, hA, hLs, hB, hcc⟩ := id hv
  subst hve
  unfold spcV at hv ⊢
  simp only at hv ⊢ hA hLs hB hcc
  obtain ⟨hS, hE2⟩ := orE_zero hE
  have hE3 : ¬ (cs.length ≠ 256 ∨ ∃ x ∈ cs, x < 0) := fun h => by rw [if_pos h] at hE2; cases hE2
  have hln : cs.length = 256 := Classical.byContradiction fun h => hE3 (.inl h)
  have hpos : ∀ k, k < 256 → 0 ≤ cs.getD k 0 := fun k hk => Classical.byContradiction fun h => hE3 (.inr (fow_neg (k := k) (by omega) (by omega)))
  have hT := (spc_zero hS).2.1
  simp only at hT
  have h8 := (tab_zero hT).1
  have h64 := (tab_zero hT).2.1
  have HOw := Lib.hid (fun v W h => rown28v_any rs r ls es v W h hn h8 h64)
  have HEt := Lib.hid (fun v p W h hp k n a b c he => rEnt28_any rs r ls es v p W h hs hT hp (k := k) (n := n) (a := a) (b := b) (c := c) he)
  have kS := (Bk.new w #[.slice A rs.length c, .int .i64 r, .slice L ls.length cl, .slice B es.length d] 28).alloc (.cells #[.slice none 0 0, .int .i64 0, .slice none 0 0, .slice none 0 0] 28)
  have kR := Bk.new (w.alloc (.cells #[.slice A rs.length c, .int .i64 r, .slice L ls.length cl, .slice B es.length d] 28)) #[.slice none 0 0, .int .i64 0, .slice none 0 0, .slice none 0 0] 28
  simp only [World.size_alloc] at kR
  have hB1 := balloc (balloc (Below.refl _ w) (.cells #[.slice A rs.length c, .int .i64 r, .slice L ls.length cl, .slice B es.length d] 28)) (.cells #[.slice none 0 0, .int .i64 0, .slice none 0 0, .slice none 0 0] 28)
  generalize hw1 : (w.alloc (.cells #[.slice A rs.length c, .int .i64 r, .slice L ls.length cl, .slice B es.length d] 28)).alloc (.cells #[.slice none 0 0, .int .i64 0, .slice none 0 0, .slice none 0 0] 28) = w1 at *
  have HC := Lib.hid (rSpCheck_any rs r ls es _ _ (hv.to hB1) hn hs)
  rw [hS] at HC
  rw [hln] at hF ⊢
  have HF := Lib.hid hF
  have H64 := Lib.hid h64
  have H8 := Lib.hid h8
  have HT := Lib.hid hT
  have HV := Lib.hid hv
  have HPos := Lib.hid hpos
  have HUn := Lib.hid (fun k (hk : k < 64) => unp_in hT k hk)
  have HMA := Lib.hid (mapK_all (f := fowW cs) h64)
  have HMS := Lib.hid (fun k (hk : k < 64) => mapK_succ (fowW cs) (es := es) (k := k) (by omega))
  have HMT := Lib.hid (fun k (hk : k < 64) => mapK_at (fowW cs) (es := es) (k := k) (by omega))
  have HML := Lib.hid (fun k => (mapK_len (fowW cs) es k).trans h64)
  clear hE hE2 hE3 hln hpos hT h8 h64 hS hF hA hLs hB hv
  obtain ⟨cS, fS, lS⟩ := kS.facts
  go_enter Tryd.func34, Tryd.ntmps34
  go_wp2_with fail
  refine HC.out.mono ?_
  rintro e w2 ⟨rfl, hb2⟩
  clear cS fS lS
  replace kR := kR.to hb2
  replace kS := kS.to hb2
  replace hB1 := bnext hB1 hb2
  clear hb2 hw1
  go_wp2_with fail
  go_loopw [7, 8] (fun e i wr => e = .int .i64 0 ∧ NegI cs w2 i wr) (fun _ i _ => 256 - (intOf i).toNat)
  case atStart => exact ⟨rfl, 0, by omega, rfl, fun j hj => absurd hj (by omega), rfl⟩
  case round =>
    obtain ⟨rfl, k, hk, rfl, _, rfl⟩ := hrel
    by_cases hlt : k < 256
    · obtain ⟨g, off, z, rfl, hg, hz, hc⟩ := (HF.out.below hB1 (Nat.le_refl _)).numb hlt
      have hkI : (k : Int) < 256 := by omega
      have hz0 : ¬ z < 0 := by have := HPos.out k hlt; rw [hz] at this; omega
      have hd : decide (z < 0) = false := decide_eq_false hz0
      clear hz
      go_wp2_with fail
      go_roundw
      case rel => exact ⟨rfl, k + 1, by omega, by go_num, fun j hj => HPos.out j (by omega), rfl⟩
      case measure => simp [intOf]; omega
    · obtain rfl : k = 256 := by omega
      obtain ⟨cS, fS, lS⟩ := kS.facts
      go_wp2_with fail
      refine (HOw.out _ _ (HV.out.to hB1)).mono ?_
      rintro e w3 ⟨AR, cR, gA, cA, gB, cB, rfl, hrR, hoA, hoB, hAB, hlA, hlB, hlR, hb3⟩
      have hszr : w.heap.size + 1 < wr.heap.size := kR.lt
      clear cS fS lS
      replace kR := kR.to hb3
      replace kS := kS.to hb3
      have hB3 := bnext hB1 hb3
      have hw3 := hb3.size
      clear hb3
      go_upto_region 12 with fail
      have kO := Bk.new w3 #[.slice AR rs.length cR, .int .i64 r, .slice (some ⟨gA, 0, none⟩) 8 cA, .slice (some ⟨gB, 0, none⟩) 64 cB] 28
      have hcN := balloc (Below.refl _ w3) (.cells #[.slice AR rs.length cR, .int .i64 r, .slice (some ⟨gA, 0, none⟩) 8 cA, .slice (some ⟨gB, 0, none⟩) 64 cB] 28)
      have hgA3 := hoA.lt
      have hgB3 := hoB.lt
      have hR3 := rd_ltY hrR
      replace kR := kR.to hcN
      replace kS := kS.to hcN
      replace hoA := hoA.to hcN
      replace hoB := hoB.to hcN
      replace hrR := hrR.below hcN (Nat.le_refl _)
      have hB4 := bnext hB3 hcN
      have hs4 : (w3.alloc (.cells #[.slice AR rs.length cR, .int .i64 r, .slice (some ⟨gA, 0, none⟩) 8 cA, .slice (some ⟨gB, 0, none⟩) 64 cB] 28)).heap.size = w3.heap.size + 1 := by simp
      generalize w3.alloc (.cells #[.slice AR rs.length cR, .int .i64 r, .slice (some ⟨gA, 0, none⟩) 8 cA, .slice (some ⟨gB, 0, none⟩) 64 cB] 28) = w4 at *
      obtain ⟨O, hO⟩ : ∃ O, O = w3.heap.size := ⟨_, rfl⟩
      rw [← hO] at kO hgA3 hgB3 hs4 hw3 hR3 ⊢
      obtain ⟨lo, hlo⟩ : ∃ lo, lo = wr.heap.size := ⟨_, rfl⟩
      rw [← hlo] at hlA hlB hlR hw3 hszr
      have HB4 := Lib.hid (show ∀ W, Below lo w4 W → Below w.heap.size w W from fun W h => hB4.trans (h.mono (by omega)))
      have HFr : Hid (∀ W, Below lo w4 W → Rd W 1 F 256 (iw cs)) := Lib.hid (fun W h => HF.out.below (HB4.out W h) (Nat.le_refl _))
      rw [← mapK_zero (fowW cs) es] at hoB
      clear hcN hB3 hO hlo
      go_wp2_with fail
      go_loopw [10, 11] (fun n i wx => FroI rs r ls cs es O lo AR cR gA cA gB cB w4 n i wx) (fun _ i _ => 64 - (intOf i).toNat)
      case atStart => exact ⟨0, by omega, rfl, rfl, kO, hrR, hoA, hoB, Below.refl _ _, Nat.le_refl _⟩
      case round =>
        obtain ⟨k, hk, rfl, rfl, kOr, hrRr, hoAr, hoBr, hBx, hsx⟩ := hrel
        have hBw := HB4.out _ hBx
        by_cases hlt : k < 64
        · have hkI : (k : Int) < 64 := by omega
          have HMs := Lib.hid (HMS.out k hlt)
          have hmt := HMT.out k hlt
          have hml := HML.out k
          have hfl := fowN_le es cs k
          rcases hee : entP es k with ⟨k1, n1, a1, b1, c1⟩
          have HE := Lib.hid (HEt.out _ k _ (HV.out.to hBw) hlt _ _ _ _ _ hee)
          have hrg := entP_rng HT.out hlt
          have hun : unpR (es.getD k 0) = ((k1, n1, a1, b1, c1), 0) := Prod.ext hee (HUn.out k hlt)
          rw [hee] at hrg
          simp only at hrg
          have hsf : (mapK (fowW cs) es k).set k (es.getD k 0) = mapK (fowW cs) es k := by rw [← hmt]; exact set_atY (by omega)
          have hfb0 := fowB_of (cs := cs) hun
          have hny := fun h => fowN_yes (es := es) (cs := cs) (k := k) h
          have hnw := fun h => fowN_no (es := es) (cs := cs) (k := k) h
          generalize es.getD k 0 = x at *
          generalize hgm : mapK (fowW cs) es k = mk at *
          generalize hgn : fowN es cs k = fn at *
          have HSelf := Lib.hid hsf
          have HUx := Lib.hid hun
          have HNy := Lib.hid hny
          have HNn := Lib.hid hnw
          obtain ⟨nn, rfl⟩ : ∃ nn : Nat, n1 = nn := ⟨n1.toNat, by omega⟩
          have hnn : nn < 256 := by omega
          have hnnI : (nn : Int) < 256 := by omega
          rw [Int.toNat_natCast] at hfb0
          clear hee hun hsf hmt hgm hgn hrg hny hnw
          have kSr := kS.below hBx (by omega)
          obtain ⟨cS, fS, lS⟩ := kSr.facts
          go_wp2_with fail
          refine HE.out.mono ?_
          rintro e w5 ⟨rfl, hb5⟩
          clear cS fS lS
          have kX := Bk.new w5 #[.int .i64 k1, .int .i64 (nn : Int), .bool a1, .bool b1, .bool c1] 52
          have hcE := balloc hb5 (.cells #[.int .i64 k1, .int .i64 (nn : Int), .bool a1, .bool b1, .bool c1] 52)
          have kO6 := kOr.to hcE
          have hR6 := hrRr.below hcE (Nat.le_refl _)
          have hA6 := hoAr.to hcE
          have hB6' := hoBr.to hcE
          have hB6 := hBx.trans (hcE.mono (by omega))
          have hs5 := hb5.size
          go_upto_region 16 with fail
          generalize w5.alloc (.cells #[.int .i64 k1, .int .i64 (nn : Int), .bool a1, .bool b1, .bool c1] 52) = w6 at *
          have hs6 : w5.heap.size < w6.heap.size := kX.lt
          obtain ⟨X, hX⟩ : ∃ X, X = w5.heap.size := ⟨_, rfl⟩
          rw [← hX] at kX hs5 hs6 ⊢
          clear hX hcE hb5 kOr hrRr hoAr hoBr
          obtain ⟨gF, oF, z, rfl, hgF, hz, hcF⟩ := (HFr.out _ hB6).numb hnn
          rw [hz] at hfb0
          clear hz
          by_cases hk1 : k1 = 1
          case neg =>
            have hd : (k1 == 1) = false := by simpa using hk1
            have hfb : fowB cs x = false := by rw [hfb0, decide_eq_false hk1, Bool.false_and]
            clear hfb0 hk1
            have HNo := Lib.hid (HNn.out hfb)
            have HWo := Lib.hid (fowW_no hfb)
            clear hfb
            obtain ⟨cX, fX, lX⟩ := kX.facts
            go_wp2_with fail
            go_roundw
            case rel => first | exact ⟨k + 1, by omega, by go_num, by rw [HNo.out], kO6, hR6, hA6, by rw [HMs.out, HWo.out, HSelf.out]; exact hB6', hB6, by omega⟩ | ((repeat apply Exists.intro); exact ⟨⟨k + 1, by omega, by go_num, by rw [HNo.out], kO6, hR6, hA6, by rw [HMs.out, HWo.out, HSelf.out]; exact hB6', hB6, by omega⟩, rfl⟩)
            case measure => simp [intOf]; omega
          subst hk1
          cases b1
          case false =>
            have hfb : fowB cs x = false := by rw [hfb0, Bool.false_and, Bool.and_false]
            clear hfb0
            have HNo := Lib.hid (HNn.out hfb)
            have HWo := Lib.hid (fowW_no hfb)
            clear hfb
            obtain ⟨cX, fX, lX⟩ := kX.facts
            go_wp2_with fail
            go_roundw
            case rel => first | exact ⟨k + 1, by omega, by go_num, by rw [HNo.out], kO6, hR6, hA6, by rw [HMs.out, HWo.out, HSelf.out]; exact hB6', hB6, by omega⟩ | ((repeat apply Exists.intro); exact ⟨⟨k + 1, by omega, by go_num, by rw [HNo.out], kO6, hR6, hA6, by rw [HMs.out, HWo.out, HSelf.out]; exact hB6', hB6, by omega⟩, rfl⟩)
            case measure => simp [intOf]; omega
          by_cases hz1 : z ≤ 1
          case neg =>
            have hd : decide (z ≤ 1) = false := decide_eq_false hz1
            have hfb : fowB cs x = false := by rw [hfb0, hd, Bool.and_false, Bool.and_false]
            clear hfb0
            have HNo := Lib.hid (HNn.out hfb)
            have HWo := Lib.hid (fowW_no hfb)
            clear hfb
            obtain ⟨cX, fX, lX⟩ := kX.facts
            go_wp2_with fail
            go_roundw
            case rel => first | exact ⟨k + 1, by omega, by go_num, by rw [HNo.out], kO6, hR6, hA6, by rw [HMs.out, HWo.out, HSelf.out]; exact hB6', hB6, by omega⟩ | ((repeat apply Exists.intro); exact ⟨⟨k + 1, by omega, by go_num, by rw [HNo.out], kO6, hR6, hA6, by rw [HMs.out, HWo.out, HSelf.out]; exact hB6', hB6, by omega⟩, rfl⟩)
            case measure => simp [intOf]; omega
          have hd : decide (z ≤ 1) = true := decide_eq_true hz1
          have hfb : fowB cs x = true := by rw [hfb0, hd]; rfl
          have HNy2 := Lib.hid (HNy.out hfb)
          have hpk := fow_pack HUx.out
          have hw2 := (fow_word HUx.out).2
          rw [← fowW_yes HUx.out hfb] at hpk hw2
          have HPk := Lib.hid hpk
          clear hfb0 hfb hpk
          obtain ⟨cX, fX, lX⟩ := kX.facts
          go_upto_region 18 with fail
          clear cX fX lX
          have kX7 := (kX.put 2 (.bool true)).put 3 (.bool false)
          simp only [List.setIfInBounds_toArray, List.set_cons_succ, List.set_cons_zero] at kX7
          have hXO : O ≠ X := by omega
          have kO7 := (kO6.far (p := ⟨X, 2, none⟩) hXO (.bool true)).far (p := ⟨X, 3, none⟩) hXO (.bool false)
          have hR7 := (hR6.far (p := ⟨X, 2, none⟩) (fun b off h0 e => by have := hR3 b off h0 e; show b ≠ X; omega) (.bool true)).far (p := ⟨X, 3, none⟩) (fun b off h0 e => by have := hR3 b off h0 e; show b ≠ X; omega) (.bool false)
          have hA7 := (hA6.far (p := ⟨X, 2, none⟩) (by show gA ≠ X; omega) (.bool true)).far (p := ⟨X, 3, none⟩) (by show gA ≠ X; omega) (.bool false)
          have hB7' := (hB6'.far (p := ⟨X, 2, none⟩) (by show gB ≠ X; omega) (.bool true)).far (p := ⟨X, 3, none⟩) (by show gB ≠ X; omega) (.bool false)
          have hB7 := (hB6.setCell (p := ⟨X, 2, none⟩) (by show lo ≤ X; omega) (.bool true)).setCell (p := ⟨X, 3, none⟩) (by show lo ≤ X; omega) (.bool false)
          have hs7 : ((w6.setCell ⟨X, 2, none⟩ (.bool true)).setCell ⟨X, 3, none⟩ (.bool false)).heap.size = w6.heap.size := by simp
          generalize (w6.setCell ⟨X, 2, none⟩ (.bool true)).setCell ⟨X, 3, none⟩ (.bool false) = w7 at *
          clear kX kO6 hR6 hA6 hB6' hB6
          have o3 := kO7.cell 3
          have x0 := kX7.cell 0
          have x1 := kX7.cell 1
          have x2 := kX7.cell 2
          have x3 := kX7.cell 3
          have x4 := kX7.cell 4
          simp at o3 x0 x1 x2 x3 x4
          have lX7 := kX7.lt
          go_region_held3 (fun w' => w'.cell? ⟨O, 3, none⟩ = some (.slice (some ⟨gB, 0, none⟩) 64 cB) ∧ w'.cell? ⟨X, 0, none⟩ = some (.int .i64 1) ∧ w'.cell? ⟨X, 1, none⟩ = some (.int .i64 (nn : Int)) ∧ w'.cell? ⟨X, 2, none⟩ = some (.bool true) ∧ w'.cell? ⟨X, 3, none⟩ = some (.bool false) ∧ w'.cell? ⟨X, 4, none⟩ = some (.bool c1))
            (refine ⟨?_, ?_, ?_, ?_, ?_, ?_⟩ <;> (repeat (with_reducible first | exact o3 | exact x0 | exact x1 | exact x2 | exact x3 | exact x4 | refine cell_drew ?_ | refine cell_later hbG ?_ | refine cell_far ?_ (by show _ ≠ _; simp only; omega) _)))
            (first
              | (go_at_call 56
                 refine (rPkd28_any 1 nn true false c1 (fowW cs x) _ HPk.out).mono ?_
                 rintro e wG ⟨rfl, hbG⟩
                 have hBG := (hB7'.to (below_drew (Below.refl _ _))).to hbG
                 have fG := (hBG.cell (j := k) (by omega)).2
                 obtain ⟨y6, hy6⟩ : ∃ y, wG.cell? ⟨gB, k, none⟩ = some y := ⟨_, by rw [(hBG.cell (j := k) (by omega)).1]; exact List.getElem?_eq_getElem (by rw [uw_len]; omega)⟩
                 have lG := hBG.lt))
          all_goals
            have kOG := (kO7.drew.to hbG).far (p := ⟨gB, k, none⟩) (by show O ≠ gB; omega) (.int .u64 ((fowW cs x : Nat) : Int))
            have hRG := (hR7.to (below_drew (Below.refl _ _))).to hbG |>.far (p := ⟨gB, k, none⟩) (fun b off h0 e => (hlR b off h0 e).2.2) (.int .u64 ((fowW cs x : Nat) : Int))
            have hAG := ((hA7.to (below_drew (Below.refl _ _))).to hbG).far (p := ⟨gB, k, none⟩) (by show gA ≠ gB; omega) (.int .u64 ((fowW cs x : Nat) : Int))
            have hBG2 := hBG.put k (.int .u64 ((fowW cs x : Nat) : Int))
            rw [uw_set1] at hBG2
            have hB9 := ((below_drew hB7).trans (hbG.mono (by simp; omega))).setCell (p := ⟨gB, k, none⟩) (by show lo ≤ gB; omega) (.int .u64 ((fowW cs x : Nat) : Int))
            have hsG := hbG.size
            simp only [World.size_drew] at hsG
            have HBG := Lib.hid hBG2
            clear hBG2 hBG o3 x0 x1 x2 x3 x4
            go_wp2_with fail
            go_roundw
            case rel => first | exact ⟨k + 1, by omega, by go_num, by rw [HNy2.out]; push_cast; rfl, kOG, hRG, hAG, by rw [HMs.out]; exact HBG.out, hB9, by simp; omega⟩ | ((repeat apply Exists.intro); exact ⟨⟨k + 1, by omega, by go_num, by rw [HNy2.out]; push_cast; rfl, kOG, hRG, hAG, by rw [HMs.out]; exact HBG.out, hB9, by simp; omega⟩, rfl⟩)
            case measure => simp [intOf]; omega
        · obtain rfl : k = 64 := by omega
          rw [HMA.out] at hoBr
          have kRr := kR.below hBx (by omega)
          generalize hgn : fowN es cs 64 = fnN at *
          have Hgn := Lib.hid hgn
          obtain ⟨cO, fO, lO⟩ := kOr.facts
          obtain ⟨cRR, fRR, lRR⟩ := kRr.facts
          clear hgn
          go_wp2_with fail
          have kF := kRr.put4 (.slice AR rs.length cR) (.int .i64 r) (.slice (some ⟨gA, 0, none⟩) 8 cA) (.slice (some ⟨gB, 0, none⟩) 64 cB)
          have hBF := below_put4 hBw (g := w.heap.size + 1) (by omega) (.slice AR rs.length cR) (.int .i64 r) (.slice (some ⟨gA, 0, none⟩) 8 cA) (.slice (some ⟨gB, 0, none⟩) 64 cB)
          have h8 := H8.out
          have h64 : (es.map (fowW cs)).length = 64 := by rw [List.length_map]; exact H64.out
          have hsp : SpV wr (.agg #[.slice AR rs.length cR, .int .i64 r, .slice (some ⟨gA, 0, none⟩) 8 cA, .slice (some ⟨gB, 0, none⟩) 64 cB]) (rs, r, ls, es.map (fowW cs)) := ⟨AR, cR, some ⟨gA, 0, none⟩, cA, some ⟨gB, 0, none⟩, cB, by simp only [spcV, h8, h64], hrRr, by simp only [h8]; exact hoAr.rd, by simp only [h64]; exact hoBr.rd, by simp only [h8]; exact hoAr.cap (by omega)⟩
          have hsl : SLoc lo (.agg #[.slice AR rs.length cR, .int .i64 r, .slice (some ⟨gA, 0, none⟩) 8 cA, .slice (some ⟨gB, 0, none⟩) 64 cB]) := SLoc.mk (fun b off h0 e => (hlR b off h0 e).1) (fun b off h0 e => by injection e with e; injection e with e; omega) (fun b off h0 e => by injection e with e; injection e with e; omega)
          have hvF := spv_put4 hsp hsl (g := w.heap.size + 1) (by omega) (.slice AR rs.length cR) (.int .i64 r) (.slice (some ⟨gA, 0, none⟩) 8 cA) (.slice (some ⟨gB, 0, none⟩) 64 cB)
          exact bodyPost_ret (kF.res3 (P := Tryd.prog) rfl _ rfl (by kernel_rfl) (by kernel_rfl)) rfl ⟨_, by first | (rw [Hgn.out]; done) | (rw [Hgn.out]; rfl), hvF, hsl.mono (by omega), hBF⟩
theorem rOwn28_any (rs : List (Int × Int)) (r : Int) (ls : List Int) (es : List Nat) (v : Value) (cs : List Int) (F : Option Addr) (cf : Nat) (w : World) (hv : SpV w v (rs, r, ls, es)) (hn : rs.length ≤ 1000000) (hs : wsmall es) (hF : Rd w 1 F cs.length (iw cs)) (hfn : cs.length ≤ 1000) :
    Calls Tryd.prog 34 #[v, .slice F cs.length cf] w fun e w' => SpRes3 w w' (fowR (rs, r, ls, es) cs).1 (fowR (rs, r, ls, es) cs).2.1 (fowR (rs, r, ls, es) cs).2.2 e := by
  by_cases hE : fowE (rs, r, ls, es) cs = 0
  · have hR : fowR (rs, r, ls, es) cs = ((rs, r, ls, es.map (fowW cs)), ((fowN es cs 64 : Nat) : Int), 0) := by unfold fowR; rw [if_neg (by simpa using hE)]
    rw [hR]
    exact rOwn28_ok rs r ls es v cs F cf w hv hn hs hF hE
  · have hR : fowR (rs, r, ls, es) cs = (sp0, 0, fowE (rs, r, ls, es) cs) := by unfold fowR; rw [if_pos hE]
    rw [hR]
    exact rOwn28_bad rs r ls es v cs F cf w hv hn hs hF hfn hE
end Go.Proofs.YtmjahjdnfijpkaaDoor
