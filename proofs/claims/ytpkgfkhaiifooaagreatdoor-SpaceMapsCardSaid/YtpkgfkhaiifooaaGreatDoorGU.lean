/- Several texts in one. -/
import Derived.Test.YtpkgfkhaiifooaaGreatDoorGT
/- Page tables: has. -/
namespace Go.Proofs.YtpkgfkhaiifooaaGreatDoor
open Go Go.Proofs Go.RowKit
set_option linter.unusedSimpArgs false
set_option linter.unusedVariables false
set_option maxRecDepth 100000

/-- Whether a frame is that of the root or of a leaf. -/
def hasB (r : Int) (ls : List Int) (frame : Int) : Bool := decide (frame = r ∨ frame ∈ ls)
theorem run_index8 (w : World) (ls : List Int) (h1 : ls.length = 8) (k : Nat) (hk : k < 8) :
    (Instr.index 105 (.agg (iw ls).toArray) (.int .i64 k)).run Tryz.prog w = .ok (.int .i64 (ls.getD k 0)) w := by
  have hu : Tryz.prog.underlying 105 = some (.array 8 3) := by kernel_rfl
  have hi : (Tryz.prog.info? 3).map (·.size) = some 1 := by kernel_rfl
  obtain ⟨i, hi, hsz⟩ := Option.map_eq_some_iff.1 hi
  have hu3 : (Tryz.prog.underlying 3).map (·.isRow) = some false := by kernel_rfl
  obtain ⟨d3, hu3, hd3⟩ := Option.map_eq_some_iff.1 hu3
  have ha : (isAgg 3).run Tryz.prog w = .ok false w := by
    unfold isAgg
    rw [Sem.run_bind, run_underlying hu3 w]
    cases d3 <;> simp_all
  have hl : k < ls.length := by omega
  have hlt : (k : Int) < 8 := by omega
  simp [Instr.index, asIntOf, run_underlying hu, sizeOf, typeInfo, hi, hsz, hlt, part, ha, iw, hl]
  intro h
  omega

set_option maxHeartbeats 1000000 in
theorem has_arr (r : Int) (ls : List Int) (es : List Nat) (b : Nat) (frame : Int) (w : World) (h1 : ls.length = 8) (h2 : es.length = 64) (kA : Bk w b (arrL r ls es).toArray 108) :
    Calls Tryz.prog 73 #[.pointer (some ⟨b, 0, none⟩), .int .i64 frame] w fun e w' => e = .returned (.bool (hasB r ls frame)) ∧ w = w' := by
  have c0 := arr_root kA
  have lA := kA.lt
  by_cases hf : frame = r
  · have hd : hasB r ls frame = true := by simp [hasB, hf]
    rw [hd]
    have hd2 : (frame == r) = true := by simp [hf]
    clear hf hd
    go_enter Tryz.func73, Tryz.ntmps73
    go_wp2_with fail
    go_ret
    exact ⟨rfl, rfl⟩
  have Hf : Hid (hasB r ls frame = decide (frame ∈ ls)) := Lib.hid (by simp [hasB, hf])
  have hd2 : (frame == r) = false := by simp [hf]
  have hc : w.rangeAt b 1 (iw ls) := by
    intro j v hv
    have hj : j < 8 := by have := (List.getElem?_eq_some_iff.1 hv).1; simp [iw_len, h1] at this; omega
    rw [arr_leaf h1 kA hj, ← hv]
    have : j < ls.length := by omega
    simp [iw, this]
  clear hf
  go_enter Tryz.func73, Tryz.ntmps73
  go_upto_region 3 with fail
  apply wp_region_lit
  iterate 9 go_step
  refine wpList_load_mid rfl 105 _ rfl b 1 rfl (iw ls) (.array 8 3) hc (by kernel_rfl) rfl (by rw [iw_len, h1]; kernel_rfl) ?_
  go_frame
  go_wp2_with fail
  go_loop [17] (fun i => ∃ k : Nat, k ≤ 8 ∧ i = .int .i64 k ∧ Hid (∀ j, j < k → ls.getD j 0 ≠ frame)) (fun i => 8 - (intOf i).toNat)
  case atStart => exact ⟨0, by omega, rfl, Lib.hid (fun j h => by omega)⟩
  case round =>
    obtain ⟨k, hk, rfl, Hno⟩ := hrel
    by_cases hlt : k < 8
    · have hix := run_index8 w ls h1 k hlt
      obtain ⟨z, hz⟩ : ∃ z, z = ls.getD k 0 := ⟨_, rfl⟩
      rw [← hz] at hix
      by_cases hzf : z = frame
      · have hd3 : (z == frame) = true := by simp [hzf]
        have Hv : Hid (hasB r ls frame = true) := Lib.hid (by
          rw [Hf.out, decide_eq_true_eq, ← hzf, hz]
          have hl : k < ls.length := by omega
          rw [List.getD_eq_getElem?_getD, List.getElem?_eq_getElem hl]
          exact List.getElem_mem hl)
        clear hz hzf
        go_wp2_with fail
        go_ret
        exact ⟨by rw [Hv.out]; rfl, rfl⟩
      · have hd3 : (z == frame) = false := by simp [hzf]
        have Hn2 : Hid (∀ j, j < k + 1 → ls.getD j 0 ≠ frame) := Lib.hid (fun j h => by
          rcases Nat.lt_or_ge j k with h' | h'
          · exact Hno.out j h'
          · rw [show j = k by omega, ← hz]; exact hzf)
        clear hz hzf
        go_wp2_with fail
        go_round
        case rel => exact ⟨k + 1, by omega, by go_num, Hn2⟩
        case measure => simp [intOf]; omega
    · have Hv : Hid (hasB r ls frame = false) := Lib.hid (by
        rw [Hf.out, decide_eq_false_iff_not]
        intro hm
        obtain ⟨j, hj, he⟩ := List.getElem_of_mem hm
        refine Hno.out j (by omega) ?_
        rw [List.getD_eq_getElem?_getD, List.getElem?_eq_getElem hj]
        exact he)
      obtain rfl : k = 8 := by omega
      go_wp2_with fail
      go_ret
      exact ⟨by rw [Hv.out]; rfl, rfl⟩
end Go.Proofs.YtpkgfkhaiifooaaGreatDoor
/- Page tables: Put. -/
namespace Go.Proofs.YtpkgfkhaiifooaaGreatDoor
open Go Go.Proofs Go.RowKit
set_option linter.unusedSimpArgs false
set_option linter.unusedVariables false
set_option maxRecDepth 100000

/-- The slices of a table lie in blocks from lo on. -/
def TLoc (lo : Nat) (v : Value) : Prop := ∀ r A n c B m d, v = tabV r A n c B m d → (∀ b off, 0 < n → A = some ⟨b, off, none⟩ → lo ≤ b) ∧ (∀ b off, 0 < m → B = some ⟨b, off, none⟩ → lo ≤ b)
theorem TLoc.zero (lo : Nat) (r : Int) : TLoc lo (.agg #[.int .i64 r, .slice none 0 0, .slice none 0 0]) := by
  intro r A n c B m d h
  simp only [tabV, Value.agg.injEq, Array.mk.injEq, List.cons.injEq, Value.slice.injEq] at h
  obtain ⟨_, ⟨rfl, rfl, rfl⟩, ⟨rfl, rfl, rfl⟩, _⟩ := h
  exact ⟨fun b off h => absurd h (by omega), fun b off h => absurd h (by omega)⟩
theorem TLoc.arr {lo g : Nat} (h : lo ≤ g) (r : Int) : TLoc lo (.agg #[.int .i64 r, .slice (some ⟨g, 1, none⟩) 8 8, .slice (some ⟨g, 9, none⟩) 64 64]) := by
  intro r A n c B m d h
  simp only [tabV, Value.agg.injEq, Array.mk.injEq, List.cons.injEq, Value.slice.injEq] at h
  obtain ⟨_, ⟨rfl, rfl, rfl⟩, ⟨rfl, rfl, rfl⟩, _⟩ := h
  refine ⟨fun b off _ e => ?_, fun b off _ e => ?_⟩
  · injection e with e; injection e with e; omega
  · injection e with e; injection e with e; omega
/-- A table and an error that a call returned. -/
def TbRes (w w' : World) (t : Tb) (er : Int) (e : Ending) : Prop := ∃ v, e = .returned (.tuple #[v, .int .i64 er]) ∧ TbV w' v t ∧ TLoc w.heap.size v ∧ Below w.heap.size w w'
/-- Such a value is loaded. -/
theorem wpList_load_arr {ops : Array Oper} {rest : List Oper} {op : Oper} {a : Act} {w : World} {Q : Exit → Act → World → Prop} {r : Int} {ls : List Int} {es : List Nat} {b : Nat} (h1 : ls.length = 8) (h2 : es.length = 64) (kA : Bk w b (arrL r ls es).toArray 108)
    (hgd : op.guard = none) (x : Operand) (ho : op.op = .load 108 x) (hx : a.eval x = .pointer (some ⟨b, 0, none⟩))
    (h : wpList Tryz.prog ops Q rest (a.put op.dst (.agg (arrL r ls es).toArray)) w) : wpList Tryz.prog ops Q (op :: rest) a w := by
  have hu : (Tryz.prog.underlying 108).map (·.isRow) = some true := by kernel_rfl
  obtain ⟨d, hu, hd⟩ := Option.map_eq_some_iff.1 hu
  have hr := kA.range
  simp only at hr
  exact wpList_load_mid hgd 108 x ho b 0 hx (arrL r ls es) d hr hu hd (by rw [arrL_len r ls es h1 h2]; kernel_rfl) h
theorem packR_nat (k n : Int) (a b c : Bool) (h : (packR k n a b c).2 = 0) : ∃ x : Nat, (packR k n a b c).1 = x ∧ x < 65536 := by
  unfold packR at h ⊢
  by_cases hz : chk k n a b c = 0
  · obtain ⟨hk, hn0, hn1⟩ := chk_ok _ _ _ _ _ hz
    have hf := flagN_lt a b c
    rw [if_neg (by simp [hz])]
    refine ⟨_, rfl, ?_⟩
    unfold packN
    omega
  · rw [if_pos hz] at h
    exact absurd h hz

set_option maxHeartbeats 1000000 in
theorem TPut_bad1 (r : Int) (ls : List Int) (es : List Nat) (v : Value) (page k n : Int) (a b c' : Bool) (w : World) (hv : TbV w v (r, ls, es)) (hs : wsmall es) (hL : LayOK w) (hA : askE r ls es page ≠ 0) :
    Calls Tryz.prog 75 #[v, .int .i64 page, .agg #[.int .i64 k, .int .i64 n, .bool a, .bool b, .bool c']] w fun e w' => TbRes w w' tb0 (askE r ls es page) e := by
  obtain ⟨A, c, B, d, rfl, hA', hB, hcc⟩ := id hv
  simp only at hA' hB hcc
  unfold tabV at hv ⊢
  simp only at hv ⊢
  have kT := (((Bk.new (w) #[.int .i64 r, .slice A ls.length c, .slice B es.length d] 26).alloc (.cells #[.int .i64 k, .int .i64 n, .bool a, .bool b, .bool c'] 57)).alloc (.cells #[.int .i64 0, .slice none 0 0, .slice none 0 0] 26))
  have kE := ((Bk.new (w.alloc (.cells #[.int .i64 r, .slice A ls.length c, .slice B es.length d] 26)) #[.int .i64 k, .int .i64 n, .bool a, .bool b, .bool c'] 57).alloc (.cells #[.int .i64 0, .slice none 0 0, .slice none 0 0] 26))
  rw [World.size_alloc] at kE
  have kR := (Bk.new ((w.alloc (.cells #[.int .i64 r, .slice A ls.length c, .slice B es.length d] 26)).alloc (.cells #[.int .i64 k, .int .i64 n, .bool a, .bool b, .bool c'] 57)) #[.int .i64 0, .slice none 0 0, .slice none 0 0] 26)
  rw [World.size_alloc, World.size_alloc] at kR
  have hB1 := balloc (balloc (balloc (Below.refl _ w) (.cells #[.int .i64 r, .slice A ls.length c, .slice B es.length d] 26)) (.cells #[.int .i64 k, .int .i64 n, .bool a, .bool b, .bool c'] 57)) (.cells #[.int .i64 0, .slice none 0 0, .slice none 0 0] 26)
  generalize hw_w1 : ((w.alloc (.cells #[.int .i64 r, .slice A ls.length c, .slice B es.length d] 26)).alloc (.cells #[.int .i64 k, .int .i64 n, .bool a, .bool b, .bool c'] 57)).alloc (.cells #[.int .i64 0, .slice none 0 0, .slice none 0 0] 26) = w1 at *
  have hd : (askE r ls es page != 0) = true := by simpa using hA
  obtain ⟨cT, fT, lT⟩ := kT.facts
  have hst := arr_store0 arr_z73 arr_z1
  go_enter Tryz.func75, Tryz.ntmps75
  go_wp2_with fail
  refine (open_bad r ls es _ page _ (hv.to hB1) hs (hL.below hB1) hA).mono ?_
  rintro e w2 ⟨rfl, hb2⟩
  go_upto_region 2 with fail
  have kA := (Bk.new (w2) Tryz.zeroCells108 108)
  have hB3 := balloc (Below.refl _ w2) (.cells Tryz.zeroCells108 108)
  generalize hw_w3 : (w2).alloc (.cells Tryz.zeroCells108 108) = w3 at *
  replace kR := (kR.to hb2).to hB3
  replace hB1 := bnext (bnext hB1 hb2) hB3
  clear hst cT fT lT hb2 hw_w1 hw_w3
  obtain ⟨cR, fR, lR⟩ := kR.facts
  go_wp2_with fail
  have kF := kR.put3 (.int .i64 0) (.slice none 0 0) (.slice none 0 0)
  have hBF := below_put3 hB1 (g := w.heap.size + 1 + 1) (by omega) (.int .i64 0) (.slice none 0 0) (.slice none 0 0)
  exact bodyPost_ret (kF.res2 (P := Tryz.prog) rfl _ rfl (by kernel_rfl) (by kernel_rfl)) rfl ⟨_, rfl, TbV.zero _, TLoc.zero _ _, hBF⟩

set_option maxHeartbeats 1000000 in
theorem TPut_bad2 (r : Int) (ls : List Int) (es : List Nat) (v : Value) (p : Nat) (k n : Int) (a b c' : Bool) (pw pe : Int) (w : World) (hv : TbV w v (r, ls, es)) (hs : wsmall es) (hL : LayOK w) (hE : tabE r ls es = 0) (hp : p < 64) (hpk : packR k n a b c' = (pw, pe)) (hpe : pe ≠ 0) :
    Calls Tryz.prog 75 #[v, .int .i64 p, .agg #[.int .i64 k, .int .i64 n, .bool a, .bool b, .bool c']] w fun e w' => TbRes w w' tb0 pe e := by
  obtain ⟨h1, h2, hR, hLs, hDu, hSt, hUn, hMi⟩ := tab_zero hE
  obtain ⟨A, c, B, d, rfl, hA, hB, hcc⟩ := id hv
  simp only at hA hB hcc
  unfold tabV at hv ⊢
  simp only at hv ⊢
  rw [h1, h2] at hv ⊢
  rw [h1] at hA hcc
  rw [h2] at hB
  have kT := (((Bk.new (w) #[.int .i64 r, .slice A 8 c, .slice B 64 d] 26).alloc (.cells #[.int .i64 k, .int .i64 n, .bool a, .bool b, .bool c'] 57)).alloc (.cells #[.int .i64 0, .slice none 0 0, .slice none 0 0] 26))
  have kE := ((Bk.new (w.alloc (.cells #[.int .i64 r, .slice A 8 c, .slice B 64 d] 26)) #[.int .i64 k, .int .i64 n, .bool a, .bool b, .bool c'] 57).alloc (.cells #[.int .i64 0, .slice none 0 0, .slice none 0 0] 26))
  rw [World.size_alloc] at kE
  have kR := (Bk.new ((w.alloc (.cells #[.int .i64 r, .slice A 8 c, .slice B 64 d] 26)).alloc (.cells #[.int .i64 k, .int .i64 n, .bool a, .bool b, .bool c'] 57)) #[.int .i64 0, .slice none 0 0, .slice none 0 0] 26)
  rw [World.size_alloc, World.size_alloc] at kR
  have hB1 := balloc (balloc (balloc (Below.refl _ w) (.cells #[.int .i64 r, .slice A 8 c, .slice B 64 d] 26)) (.cells #[.int .i64 k, .int .i64 n, .bool a, .bool b, .bool c'] 57)) (.cells #[.int .i64 0, .slice none 0 0, .slice none 0 0] 26)
  generalize hw_w1 : ((w.alloc (.cells #[.int .i64 r, .slice A 8 c, .slice B 64 d] 26)).alloc (.cells #[.int .i64 k, .int .i64 n, .bool a, .bool b, .bool c'] 57)).alloc (.cells #[.int .i64 0, .slice none 0 0, .slice none 0 0] 26) = w1 at *
  have hpI : (p : Int) < 64 := by omega
  have hqI : ((p / 8 : Nat) : Int) < 8 := by omega
  obtain ⟨cT, fT, lT⟩ := kT.facts
  have hln := arrL_len r ls es h1 h2
  have hst := arr_store0 (arr_73 r ls es h1 h2) (arrL_one r ls es)
  have hd : (pe != 0) = true := by simpa using hpe
  go_enter Tryz.func75, Tryz.ntmps75
  go_wp2_with fail
  refine (open_ok r ls es _ p _ (hv.to hB1) hs (hL.below hB1) hE hp).mono ?_
  rintro e w2 ⟨rfl, hb2⟩
  have hq8 : p / 8 < 8 := by omega
  go_upto_region 2 with fail
  have kA := (Bk.new (w2) (arrL r ls es).toArray 108)
  have hB3 := balloc (Below.refl _ w2) (.cells (arrL r ls es).toArray 108)
  generalize hw_w3 : (w2).alloc (.cells (arrL r ls es).toArray 108) = w3 at *
  replace kR := (kR.to hb2).to hB3
  replace kE := (kE.to hb2).to hB3
  replace hB1 := bnext (bnext hB1 hb2) hB3
  clear hst cT fT lT hb2 hB3 hw_w1 hw_w3
  obtain ⟨cE, fE, lE⟩ := kE.facts
  go_wp2_with fail
  refine (Pack_any k n a b c' _ (hL.below hB1)).mono ?_
  rw [hpk]
  rintro e w4 ⟨rfl, hb4⟩
  simp only
  replace kR := kR.to hb4
  replace kE := kE.to hb4
  replace kA := kA.to hb4
  replace hB1 := bnext hB1 hb4
  clear cE fE lE hb4
  obtain ⟨cE, fE, lE⟩ := kE.facts
  obtain ⟨cR, fR, lR⟩ := kR.facts
  go_wp2_with fail
  have kF := kR.put3 (.int .i64 0) (.slice none 0 0) (.slice none 0 0)
  have hBF := below_put3 hB1 (g := w.heap.size + 1 + 1) (by omega) (.int .i64 0) (.slice none 0 0) (.slice none 0 0)
  exact bodyPost_ret (kF.res2 (P := Tryz.prog) rfl _ rfl (by kernel_rfl) (by kernel_rfl)) rfl ⟨_, rfl, TbV.zero _, TLoc.zero _ _, hBF⟩

set_option maxHeartbeats 1000000 in
theorem TPut_bad3 (r : Int) (ls : List Int) (es : List Nat) (v : Value) (p : Nat) (k n : Int) (a b c' : Bool) (pw : Int) (w : World) (hv : TbV w v (r, ls, es)) (hs : wsmall es) (hL : LayOK w) (hE : tabE r ls es = 0) (hp : p < 64) (hpk : packR k n a b c' = (pw, 0)) (hk : k ≠ 0) (hla : ls.getD (p / 8) 0 = -1) :
    Calls Tryz.prog 75 #[v, .int .i64 p, .agg #[.int .i64 k, .int .i64 n, .bool a, .bool b, .bool c']] w fun e w' => TbRes w w' tb0 9 e := by
  obtain ⟨h1, h2, hR, hLs, hDu, hSt, hUn, hMi⟩ := tab_zero hE
  obtain ⟨A, c, B, d, rfl, hA, hB, hcc⟩ := id hv
  simp only at hA hB hcc
  unfold tabV at hv ⊢
  simp only at hv ⊢
  rw [h1, h2] at hv ⊢
  rw [h1] at hA hcc
  rw [h2] at hB
  have kT := (((Bk.new (w) #[.int .i64 r, .slice A 8 c, .slice B 64 d] 26).alloc (.cells #[.int .i64 k, .int .i64 n, .bool a, .bool b, .bool c'] 57)).alloc (.cells #[.int .i64 0, .slice none 0 0, .slice none 0 0] 26))
  have kE := ((Bk.new (w.alloc (.cells #[.int .i64 r, .slice A 8 c, .slice B 64 d] 26)) #[.int .i64 k, .int .i64 n, .bool a, .bool b, .bool c'] 57).alloc (.cells #[.int .i64 0, .slice none 0 0, .slice none 0 0] 26))
  rw [World.size_alloc] at kE
  have kR := (Bk.new ((w.alloc (.cells #[.int .i64 r, .slice A 8 c, .slice B 64 d] 26)).alloc (.cells #[.int .i64 k, .int .i64 n, .bool a, .bool b, .bool c'] 57)) #[.int .i64 0, .slice none 0 0, .slice none 0 0] 26)
  rw [World.size_alloc, World.size_alloc] at kR
  have hB1 := balloc (balloc (balloc (Below.refl _ w) (.cells #[.int .i64 r, .slice A 8 c, .slice B 64 d] 26)) (.cells #[.int .i64 k, .int .i64 n, .bool a, .bool b, .bool c'] 57)) (.cells #[.int .i64 0, .slice none 0 0, .slice none 0 0] 26)
  generalize hw_w1 : ((w.alloc (.cells #[.int .i64 r, .slice A 8 c, .slice B 64 d] 26)).alloc (.cells #[.int .i64 k, .int .i64 n, .bool a, .bool b, .bool c'] 57)).alloc (.cells #[.int .i64 0, .slice none 0 0, .slice none 0 0] 26) = w1 at *
  have hpI : (p : Int) < 64 := by omega
  have hqI : ((p / 8 : Nat) : Int) < 8 := by omega
  obtain ⟨cT, fT, lT⟩ := kT.facts
  have hln := arrL_len r ls es h1 h2
  have hst := arr_store0 (arr_73 r ls es h1 h2) (arrL_one r ls es)
  have hd : (k != 0) = true := by simpa using hk
  go_enter Tryz.func75, Tryz.ntmps75
  go_wp2_with fail
  refine (open_ok r ls es _ p _ (hv.to hB1) hs (hL.below hB1) hE hp).mono ?_
  rintro e w2 ⟨rfl, hb2⟩
  have hq8 : p / 8 < 8 := by omega
  go_upto_region 2 with fail
  have kA := (Bk.new (w2) (arrL r ls es).toArray 108)
  have hB3 := balloc (Below.refl _ w2) (.cells (arrL r ls es).toArray 108)
  generalize hw_w3 : (w2).alloc (.cells (arrL r ls es).toArray 108) = w3 at *
  replace kR := (kR.to hb2).to hB3
  replace kE := (kE.to hb2).to hB3
  replace hB1 := bnext (bnext hB1 hb2) hB3
  clear hst cT fT lT hb2 hB3 hw_w1 hw_w3
  obtain ⟨cE, fE, lE⟩ := kE.facts
  go_wp2_with fail
  refine (Pack_any k n a b c' _ (hL.below hB1)).mono ?_
  rw [hpk]
  rintro e w4 ⟨rfl, hb4⟩
  simp only
  replace kR := kR.to hb4
  replace kE := kE.to hb4
  replace kA := kA.to hb4
  replace hB1 := bnext hB1 hb4
  clear cE fE lE hb4
  obtain ⟨cE, fE, lE⟩ := kE.facts
  obtain ⟨cR, fR, lR⟩ := kR.facts
  have ce := arr_leaf h1 kA hq8
  rw [hla] at ce
  have lA := kA.lt
  go_wp2_with fail
  have kF := kR.put3 (.int .i64 0) (.slice none 0 0) (.slice none 0 0)
  have hBF := below_put3 hB1 (g := w.heap.size + 1 + 1) (by omega) (.int .i64 0) (.slice none 0 0) (.slice none 0 0)
  exact bodyPost_ret (kF.res2 (P := Tryz.prog) rfl _ rfl (by kernel_rfl) (by kernel_rfl)) rfl ⟨_, rfl, TbV.zero _, TLoc.zero _ _, hBF⟩

set_option maxHeartbeats 1000000 in
theorem TPut_ok (r : Int) (ls : List Int) (es : List Nat) (v : Value) (p : Nat) (k n : Int) (a b c' : Bool) (x : Nat) (w : World) (hv : TbV w v (r, ls, es)) (hs : wsmall es) (hL : LayOK w) (hE : tabE r ls es = 0) (hp : p < 64) (hpk : packR k n a b c' = ((x : Int), 0)) (hk : k = 0 ∨ ls.getD (p / 8) 0 ≠ -1) :
    Calls Tryz.prog 75 #[v, .int .i64 p, .agg #[.int .i64 k, .int .i64 n, .bool a, .bool b, .bool c']] w fun e w' => TbRes w w' (r, ls, es.set p x) 0 e := by
  obtain ⟨h1, h2, hR, hLs, hDu, hSt, hUn, hMi⟩ := tab_zero hE
  obtain ⟨A, c, B, d, rfl, hA, hB, hcc⟩ := id hv
  simp only at hA hB hcc
  unfold tabV at hv ⊢
  simp only at hv ⊢
  rw [h1, h2] at hv ⊢
  rw [h1] at hA hcc
  rw [h2] at hB
  have kT := (((Bk.new (w) #[.int .i64 r, .slice A 8 c, .slice B 64 d] 26).alloc (.cells #[.int .i64 k, .int .i64 n, .bool a, .bool b, .bool c'] 57)).alloc (.cells #[.int .i64 0, .slice none 0 0, .slice none 0 0] 26))
  have kE := ((Bk.new (w.alloc (.cells #[.int .i64 r, .slice A 8 c, .slice B 64 d] 26)) #[.int .i64 k, .int .i64 n, .bool a, .bool b, .bool c'] 57).alloc (.cells #[.int .i64 0, .slice none 0 0, .slice none 0 0] 26))
  rw [World.size_alloc] at kE
  have kR := (Bk.new ((w.alloc (.cells #[.int .i64 r, .slice A 8 c, .slice B 64 d] 26)).alloc (.cells #[.int .i64 k, .int .i64 n, .bool a, .bool b, .bool c'] 57)) #[.int .i64 0, .slice none 0 0, .slice none 0 0] 26)
  rw [World.size_alloc, World.size_alloc] at kR
  have hB1 := balloc (balloc (balloc (Below.refl _ w) (.cells #[.int .i64 r, .slice A 8 c, .slice B 64 d] 26)) (.cells #[.int .i64 k, .int .i64 n, .bool a, .bool b, .bool c'] 57)) (.cells #[.int .i64 0, .slice none 0 0, .slice none 0 0] 26)
  generalize hw_w1 : ((w.alloc (.cells #[.int .i64 r, .slice A 8 c, .slice B 64 d] 26)).alloc (.cells #[.int .i64 k, .int .i64 n, .bool a, .bool b, .bool c'] 57)).alloc (.cells #[.int .i64 0, .slice none 0 0, .slice none 0 0] 26) = w1 at *
  have hpI : (p : Int) < 64 := by omega
  have hqI : ((p / 8 : Nat) : Int) < 8 := by omega
  obtain ⟨cT, fT, lT⟩ := kT.facts
  have hln := arrL_len r ls es h1 h2
  have hst := arr_store0 (arr_73 r ls es h1 h2) (arrL_one r ls es)
  go_enter Tryz.func75, Tryz.ntmps75
  go_wp2_with fail
  refine (open_ok r ls es _ p _ (hv.to hB1) hs (hL.below hB1) hE hp).mono ?_
  rintro e w2 ⟨rfl, hb2⟩
  have hw23 : w.heap.size + 1 + 1 < w2.heap.size := Nat.lt_of_lt_of_le kR.lt hb2.size
  have hq8 : p / 8 < 8 := by omega
  go_upto_region 2 with fail
  have kA := (Bk.new (w2) (arrL r ls es).toArray 108)
  have hB3 := balloc (Below.refl _ w2) (.cells (arrL r ls es).toArray 108)
  generalize hw_w3 : (w2).alloc (.cells (arrL r ls es).toArray 108) = w3 at *
  replace kR := (kR.to hb2).to hB3
  replace kE := (kE.to hb2).to hB3
  replace hB1 := bnext (bnext hB1 hb2) hB3
  clear hst cT fT lT hb2 hB3 hw_w1 hw_w3
  obtain ⟨cE, fE, lE⟩ := kE.facts
  go_wp2_with fail
  refine (Pack_any k n a b c' _ (hL.below hB1)).mono ?_
  rw [hpk]
  rintro e w4 ⟨rfl, hb4⟩
  simp only
  replace kR := kR.to hb4
  replace kE := kE.to hb4
  replace kA := kA.to hb4
  replace hB1 := bnext hB1 hb4
  clear cE fE lE hb4
  obtain ⟨cE, fE, lE⟩ := kE.facts
  obtain ⟨cR, fR, lR⟩ := kR.facts
  have ce := arr_leaf h1 kA hq8
  have lA := kA.lt
  obtain ⟨z, hz⟩ : ∃ z, z = ls.getD (p / 8) 0 := ⟨_, rfl⟩
  rw [← hz] at ce hk
  clear hz
  have hk2 : (z == -1) = false ∨ (z == -1) = true ∧ (k != 0) = false := by
    by_cases hz : z = -1
    · right
      exact ⟨by simp [hz], by rcases hk with h | h <;> simp_all⟩
    · left; simpa using hz
  clear hk
  obtain ⟨cA, fA, _⟩ := kA.facts
  have ce2 := arr_ent h1 h2 kA hp
  clear cA
  rcases hk2 with hk2 | ⟨hk2, hk3⟩
  all_goals
    go_upto_region 10 with fail
    have kA2 := kA.put (9 + p) (.int .u64 (x : Int))
    rw [arr_setent h1 p x] at kA2
    have kR2 := kR.far (p := ⟨w2.heap.size, 9 + p, none⟩) (by have := kA.lt; have := hw23; show w.heap.size + 1 + 1 ≠ w2.heap.size; omega) (.int .u64 (x : Int))
    have hB2 := hB1.setCell (p := ⟨w2.heap.size, 9 + p, none⟩) (by show w.heap.size ≤ w2.heap.size; omega) (.int .u64 (x : Int))
    clear ce ce2 fA cE fE lE cR fR lR lA
    generalize w4.setCell ⟨w2.heap.size, 9 + p, none⟩ (.int .u64 (x : Int)) = w5 at *
    have h2' : (es.set p x).length = 64 := by simpa using h2
    apply wp_region_lit
    refine wpList_load_arr h1 h2' kA2 rfl _ rfl rfl ?_
    go_frame
    go_wp2_with fail
    refine (table_any r ls (es.set p x) _ h1 h2').mono ?_
    rintro e w6 ⟨rfl, kB, hb6⟩
    have hw5 : w.heap.size + 1 + 1 < w5.heap.size := kR2.lt
    replace kR2 := kR2.to hb6
    replace hB2 := hB2.trans (hb6.mono hB2.size)
    obtain ⟨cR, fR, lR⟩ := kR2.facts
    go_wp2_with fail
    have kF := kR2.put3 (.int .i64 r) (.slice (some ⟨w5.heap.size, 1, none⟩) 8 8) (.slice (some ⟨w5.heap.size, 9, none⟩) 64 64)
    have kB2 := kB.far3 (g := w.heap.size + 1 + 1) (by omega) (.int .i64 r) (.slice (some ⟨w5.heap.size, 1, none⟩) 8 8) (.slice (some ⟨w5.heap.size, 9, none⟩) 64 64)
    have hBF := below_put3 hB2 (g := w.heap.size + 1 + 1) (by omega) (.int .i64 r) (.slice (some ⟨w5.heap.size, 1, none⟩) 8 8) (.slice (some ⟨w5.heap.size, 9, none⟩) 64 64)
    exact bodyPost_ret (kF.res2 (P := Tryz.prog) rfl _ rfl (by kernel_rfl) (by kernel_rfl)) rfl ⟨_, rfl, arr_tbv h1 h2' kB2, TLoc.arr (by omega) _, hBF⟩
theorem TPut_any (r : Int) (ls : List Int) (es : List Nat) (v : Value) (page k n : Int) (a b c' : Bool) (w : World) (hv : TbV w v (r, ls, es)) (hs : wsmall es) (hL : LayOK w) :
    Calls Tryz.prog 75 #[v, .int .i64 page, .agg #[.int .i64 k, .int .i64 n, .bool a, .bool b, .bool c']] w fun e w' => TbRes w w' (putR r ls es page k n a b c').1 (putR r ls es page k n a b c').2 e := by
  by_cases h : askE r ls es page = 0
  · obtain ⟨h1, p, rfl, hp⟩ := ask_zero h
    by_cases hp2 : (packR k n a b c').2 = 0
    · obtain ⟨x, hx, _⟩ := packR_nat k n a b c' hp2
      have hpk : packR k n a b c' = ((x : Int), 0) := Prod.ext hx hp2
      by_cases hk : ls.getD (p / 8) 0 = -1 ∧ k ≠ 0
      · have hE : putE r ls es p k n a b c' = 9 := by unfold putE; rw [orE_r _ h, orE_r _ hp2, Int.toNat_natCast, if_pos hk]
        have hR : putR r ls es p k n a b c' = (tb0, 9) := by unfold putR; rw [if_pos (by omega), hE]
        rw [hR]
        exact TPut_bad3 r ls es v p k n a b c' x w hv hs hL h1 hp hpk hk.2 hk.1
      · have hE : putE r ls es p k n a b c' = 0 := by unfold putE; rw [orE_r _ h, orE_r _ hp2, Int.toNat_natCast, if_neg hk]
        have hR : putR r ls es p k n a b c' = ((r, ls, es.set p x), 0) := by unfold putR; rw [if_neg (by omega), hx, Int.toNat_natCast, Int.toNat_natCast]
        rw [hR]
        refine TPut_ok r ls es v p k n a b c' x w hv hs hL h1 hp hpk ?_
        by_cases hk0 : k = 0
        · exact .inl hk0
        · exact .inr fun hc => hk ⟨hc, hk0⟩
    · have hE : putE r ls es p k n a b c' = (packR k n a b c').2 := by unfold putE; rw [orE_r _ h, orE_l _ hp2]
      have hR : putR r ls es p k n a b c' = (tb0, (packR k n a b c').2) := by unfold putR; rw [if_pos (by rw [hE]; exact hp2), hE]
      rw [hR]
      exact TPut_bad2 r ls es v p k n a b c' (packR k n a b c').1 (packR k n a b c').2 w hv hs hL h1 hp rfl hp2
  · have hE : putE r ls es page k n a b c' = askE r ls es page := by unfold putE; rw [orE_l _ h]
    have hR : putR r ls es page k n a b c' = (tb0, askE r ls es page) := by unfold putR; rw [if_pos (by rw [hE]; exact h), hE]
    rw [hR]
    exact TPut_bad1 r ls es v page k n a b c' w hv hs hL h
end Go.Proofs.YtpkgfkhaiifooaaGreatDoor
/- Page tables: SetLeaf. -/
namespace Go.Proofs.YtpkgfkhaiifooaaGreatDoor
open Go Go.Proofs Go.RowKit
set_option linter.unusedSimpArgs false
set_option linter.unusedVariables false
set_option maxRecDepth 100000

set_option maxHeartbeats 1000000 in
theorem TSetLeaf_bad1 (r : Int) (ls : List Int) (es : List Nat) (v : Value) (leaf frame : Int) (w : World) (hv : TbV w v (r, ls, es)) (hs : wsmall es) (hL : LayOK w) (hE : tabE r ls es ≠ 0) :
    Calls Tryz.prog 39 #[v, .int .i64 leaf, .int .i64 frame] w fun e w' => TbRes w w' tb0 (tabE r ls es) e := by
  obtain ⟨A, c, B, d, rfl, hA, hB, hcc⟩ := id hv
  simp only at hA hB hcc
  unfold tabV at hv ⊢
  simp only at hv ⊢
  have kT := ((Bk.new (w) #[.int .i64 r, .slice A ls.length c, .slice B es.length d] 26).alloc (.cells #[.int .i64 0, .slice none 0 0, .slice none 0 0] 26))
  have kR := (Bk.new (w.alloc (.cells #[.int .i64 r, .slice A ls.length c, .slice B es.length d] 26)) #[.int .i64 0, .slice none 0 0, .slice none 0 0] 26)
  rw [World.size_alloc] at kR
  have hB1 := balloc (balloc (Below.refl _ w) (.cells #[.int .i64 r, .slice A ls.length c, .slice B es.length d] 26)) (.cells #[.int .i64 0, .slice none 0 0, .slice none 0 0] 26)
  generalize hw_w1 : (w.alloc (.cells #[.int .i64 r, .slice A ls.length c, .slice B es.length d] 26)).alloc (.cells #[.int .i64 0, .slice none 0 0, .slice none 0 0] 26) = w1 at *
  have hd : (tabE r ls es != 0) = true := by simpa using hE
  obtain ⟨cT, fT, lT⟩ := kT.facts
  go_enter Tryz.func39, Tryz.ntmps39
  go_wp2_with fail
  refine (TCheck_any r ls es _ _ (hv.to hB1) hs (hL.below hB1)).mono ?_
  rintro e w2 ⟨rfl, hb2⟩
  replace kR := kR.to hb2
  replace hB1 := bnext hB1 hb2
  clear cT fT lT
  replace kT := kT.to hb2
  obtain ⟨cT, fT, lT⟩ := kT.facts
  obtain ⟨cR, fR, lR⟩ := kR.facts
  go_wp2_with fail
  have kF := kR.put3 (.int .i64 0) (.slice none 0 0) (.slice none 0 0)
  have hBF := below_put3 hB1 (g := w.heap.size + 1) (by omega) (.int .i64 0) (.slice none 0 0) (.slice none 0 0)
  exact bodyPost_ret (kF.res2 (P := Tryz.prog) rfl _ rfl (by kernel_rfl) (by kernel_rfl)) rfl ⟨_, rfl, TbV.zero _, TLoc.zero _ _, hBF⟩

set_option maxHeartbeats 1000000 in
theorem TSetLeaf_bad2 (r : Int) (ls : List Int) (es : List Nat) (v : Value) (leaf frame : Int) (w : World) (hv : TbV w v (r, ls, es)) (hs : wsmall es) (hL : LayOK w) (hE : tabE r ls es = 0) (hr : leaf < 0 ∨ 8 ≤ leaf ∨ frame < 0 ∨ 256 ≤ frame) :
    Calls Tryz.prog 39 #[v, .int .i64 leaf, .int .i64 frame] w fun e w' => TbRes w w' tb0 2 e := by
  obtain ⟨h1, h2, hR, hLs, hDu, hSt, hUn, hMi⟩ := tab_zero hE
  obtain ⟨A, c, B, d, rfl, hA, hB, hcc⟩ := id hv
  simp only at hA hB hcc
  unfold tabV at hv ⊢
  simp only at hv ⊢
  rw [h1, h2] at hv ⊢
  rw [h1] at hA hcc
  rw [h2] at hB
  have kT := ((Bk.new (w) #[.int .i64 r, .slice A 8 c, .slice B 64 d] 26).alloc (.cells #[.int .i64 0, .slice none 0 0, .slice none 0 0] 26))
  have kR := (Bk.new (w.alloc (.cells #[.int .i64 r, .slice A 8 c, .slice B 64 d] 26)) #[.int .i64 0, .slice none 0 0, .slice none 0 0] 26)
  rw [World.size_alloc] at kR
  have hB1 := balloc (balloc (Below.refl _ w) (.cells #[.int .i64 r, .slice A 8 c, .slice B 64 d] 26)) (.cells #[.int .i64 0, .slice none 0 0, .slice none 0 0] 26)
  generalize hw_w1 : (w.alloc (.cells #[.int .i64 r, .slice A 8 c, .slice B 64 d] 26)).alloc (.cells #[.int .i64 0, .slice none 0 0, .slice none 0 0] 26) = w1 at *
  obtain ⟨cT, fT, lT⟩ := kT.facts
  have hr2 : leaf < 0 ∨ 8 ≤ leaf ∨ (0 ≤ leaf ∧ leaf < 8 ∧ (frame < 0 ∨ 256 ≤ frame)) := by omega
  clear hr
  rcases hr2 with hr2 | hr2 | ⟨hr2, hr3, hr4⟩
  all_goals
    go_enter Tryz.func39, Tryz.ntmps39
    go_wp2_with fail
    refine (TCheck_any r ls es _ _ (hv.to hB1) hs (hL.below hB1)).mono ?_
    rw [hE]
    rintro e w2 ⟨rfl, hb2⟩
    replace kR := kR.to hb2
    replace hB1 := bnext hB1 hb2
    clear cT fT lT
    replace kT := kT.to hb2
    obtain ⟨cT, fT, lT⟩ := kT.facts
    obtain ⟨cR, fR, lR⟩ := kR.facts
    go_wp2_with (go_at_call 70; refine (isFrame_f frame _ hr4).mono ?_; rintro e w4 ⟨rfl, rfl⟩)
    have kF := kR.put3 (.int .i64 0) (.slice none 0 0) (.slice none 0 0)
    have hBF := below_put3 hB1 (g := w.heap.size + 1) (by omega) (.int .i64 0) (.slice none 0 0) (.slice none 0 0)
    exact bodyPost_ret (kF.res2 (P := Tryz.prog) rfl _ rfl (by kernel_rfl) (by kernel_rfl)) rfl ⟨_, rfl, TbV.zero _, TLoc.zero _ _, hBF⟩

set_option maxHeartbeats 1000000 in
theorem TSetLeaf_bad3 (r : Int) (ls : List Int) (es : List Nat) (v : Value) (q : Nat) (frame : Int) (w : World) (hv : TbV w v (r, ls, es)) (hs : wsmall es) (hL : LayOK w) (hE : tabE r ls es = 0) (hq : q < 8) (hf0 : 0 ≤ frame) (hf1 : frame < 256) (hr : r = -1) :
    Calls Tryz.prog 39 #[v, .int .i64 q, .int .i64 frame] w fun e w' => TbRes w w' tb0 9 e := by
  obtain ⟨h1, h2, hR, hLs, hDu, hSt, hUn, hMi⟩ := tab_zero hE
  obtain ⟨A, c, B, d, rfl, hA, hB, hcc⟩ := id hv
  simp only at hA hB hcc
  unfold tabV at hv ⊢
  simp only at hv ⊢
  rw [h1, h2] at hv ⊢
  rw [h1] at hA hcc
  rw [h2] at hB
  have kT := ((Bk.new (w) #[.int .i64 r, .slice A 8 c, .slice B 64 d] 26).alloc (.cells #[.int .i64 0, .slice none 0 0, .slice none 0 0] 26))
  have kR := (Bk.new (w.alloc (.cells #[.int .i64 r, .slice A 8 c, .slice B 64 d] 26)) #[.int .i64 0, .slice none 0 0, .slice none 0 0] 26)
  rw [World.size_alloc] at kR
  have hB1 := balloc (balloc (Below.refl _ w) (.cells #[.int .i64 r, .slice A 8 c, .slice B 64 d] 26)) (.cells #[.int .i64 0, .slice none 0 0, .slice none 0 0] 26)
  generalize hw_w1 : (w.alloc (.cells #[.int .i64 r, .slice A 8 c, .slice B 64 d] 26)).alloc (.cells #[.int .i64 0, .slice none 0 0, .slice none 0 0] 26) = w1 at *
  obtain ⟨cT, fT, lT⟩ := kT.facts
  have hqI : (q : Int) < 8 := by omega
  have hln := arrL_len r ls es h1 h2
  have hst := arr_store0 (arr_73 r ls es h1 h2) (arrL_one r ls es)
  have hd : (r == -1) = true := by simp [hr]
  clear hr
  go_enter Tryz.func39, Tryz.ntmps39
  go_wp2_with fail
  refine (TCheck_any r ls es _ _ (hv.to hB1) hs (hL.below hB1)).mono ?_
  rw [hE]
  rintro e w2 ⟨rfl, hb2⟩
  replace kR := kR.to hb2
  replace hB1 := bnext hB1 hb2
  clear cT fT lT
  replace kT := kT.to hb2
  obtain ⟨cT, fT, lT⟩ := kT.facts
  obtain ⟨cR, fR, lR⟩ := kR.facts
  go_upto_region 6 with (go_at_call 70; refine (isFrame_t frame _ hf0 hf1).mono ?_; rintro e w4 ⟨rfl, rfl⟩)
  go_wp2_with fail
  refine (load_any r A B c d ls es _ h1 h2 (hA.below hB1 (Nat.le_refl _)) (hB.below hB1 (Nat.le_refl _))).mono ?_
  rintro e w3 ⟨rfl, hb3⟩
  replace kR := kR.to hb3
  replace hB1 := bnext hB1 hb3
  have hw13 : w.heap.size + 1 < w3.heap.size := kR.lt
  clear cT fT lT cR fR lR
  go_upto_region 7 with fail
  have kA := (Bk.new (w3) (arrL r ls es).toArray 108)
  have hB4 := balloc (Below.refl _ w3) (.cells (arrL r ls es).toArray 108)
  generalize hw_w4 : (w3).alloc (.cells (arrL r ls es).toArray 108) = w4 at *
  replace kR := kR.to hB4
  replace hB1 := bnext hB1 hB4
  clear hst hw_w1 hw_w4 hB4
  obtain ⟨cR, fR, lR⟩ := kR.facts
  have c0 := arr_root kA
  have lA := kA.lt
  have ce := arr_leaf h1 kA hq
  go_wp2_with fail
  have kF := kR.put3 (.int .i64 0) (.slice none 0 0) (.slice none 0 0)
  have hBF := below_put3 hB1 (g := w.heap.size + 1) (by omega) (.int .i64 0) (.slice none 0 0) (.slice none 0 0)
  exact bodyPost_ret (kF.res2 (P := Tryz.prog) rfl _ rfl (by kernel_rfl) (by kernel_rfl)) rfl ⟨_, rfl, TbV.zero _, TLoc.zero _ _, hBF⟩

set_option maxHeartbeats 1000000 in
theorem TSetLeaf_bad4 (r : Int) (ls : List Int) (es : List Nat) (v : Value) (q : Nat) (frame : Int) (w : World) (hv : TbV w v (r, ls, es)) (hs : wsmall es) (hL : LayOK w) (hE : tabE r ls es = 0) (hq : q < 8) (hf0 : 0 ≤ frame) (hf1 : frame < 256) (hr : r ≠ -1) (hb : ls.getD q 0 ≠ -1 ∨ hasB r ls frame = true) :
    Calls Tryz.prog 39 #[v, .int .i64 q, .int .i64 frame] w fun e w' => TbRes w w' tb0 7 e := by
  obtain ⟨h1, h2, hR, hLs, hDu, hSt, hUn, hMi⟩ := tab_zero hE
  obtain ⟨A, c, B, d, rfl, hA, hB, hcc⟩ := id hv
  simp only at hA hB hcc
  unfold tabV at hv ⊢
  simp only at hv ⊢
  rw [h1, h2] at hv ⊢
  rw [h1] at hA hcc
  rw [h2] at hB
  have kT := ((Bk.new (w) #[.int .i64 r, .slice A 8 c, .slice B 64 d] 26).alloc (.cells #[.int .i64 0, .slice none 0 0, .slice none 0 0] 26))
  have kR := (Bk.new (w.alloc (.cells #[.int .i64 r, .slice A 8 c, .slice B 64 d] 26)) #[.int .i64 0, .slice none 0 0, .slice none 0 0] 26)
  rw [World.size_alloc] at kR
  have hB1 := balloc (balloc (Below.refl _ w) (.cells #[.int .i64 r, .slice A 8 c, .slice B 64 d] 26)) (.cells #[.int .i64 0, .slice none 0 0, .slice none 0 0] 26)
  generalize hw_w1 : (w.alloc (.cells #[.int .i64 r, .slice A 8 c, .slice B 64 d] 26)).alloc (.cells #[.int .i64 0, .slice none 0 0, .slice none 0 0] 26) = w1 at *
  obtain ⟨cT, fT, lT⟩ := kT.facts
  have hqI : (q : Int) < 8 := by omega
  have hln := arrL_len r ls es h1 h2
  have hst := arr_store0 (arr_73 r ls es h1 h2) (arrL_one r ls es)
  go_enter Tryz.func39, Tryz.ntmps39
  go_wp2_with fail
  refine (TCheck_any r ls es _ _ (hv.to hB1) hs (hL.below hB1)).mono ?_
  rw [hE]
  rintro e w2 ⟨rfl, hb2⟩
  replace kR := kR.to hb2
  replace hB1 := bnext hB1 hb2
  clear cT fT lT
  replace kT := kT.to hb2
  obtain ⟨cT, fT, lT⟩ := kT.facts
  obtain ⟨cR, fR, lR⟩ := kR.facts
  go_upto_region 6 with (go_at_call 70; refine (isFrame_t frame _ hf0 hf1).mono ?_; rintro e w4 ⟨rfl, rfl⟩)
  go_wp2_with fail
  refine (load_any r A B c d ls es _ h1 h2 (hA.below hB1 (Nat.le_refl _)) (hB.below hB1 (Nat.le_refl _))).mono ?_
  rintro e w3 ⟨rfl, hb3⟩
  replace kR := kR.to hb3
  replace hB1 := bnext hB1 hb3
  have hw13 : w.heap.size + 1 < w3.heap.size := kR.lt
  clear cT fT lT cR fR lR
  go_upto_region 7 with fail
  have kA := (Bk.new (w3) (arrL r ls es).toArray 108)
  have hB4 := balloc (Below.refl _ w3) (.cells (arrL r ls es).toArray 108)
  generalize hw_w4 : (w3).alloc (.cells (arrL r ls es).toArray 108) = w4 at *
  replace kR := kR.to hB4
  replace hB1 := bnext hB1 hB4
  clear hst hw_w1 hw_w4 hB4
  obtain ⟨cR, fR, lR⟩ := kR.facts
  have c0 := arr_root kA
  have lA := kA.lt
  have ce := arr_leaf h1 kA hq
  have hd : (r == -1) = false := by simpa using hr
  obtain ⟨z, hz⟩ : ∃ z, z = ls.getD q 0 := ⟨_, rfl⟩
  rw [← hz] at ce hb
  clear hz
  have hb2 : (z != -1) = true ∨ (z != -1) = false ∧ hasB r ls frame = true := by
    by_cases h : z = -1
    · right; exact ⟨by simp [h], by rcases hb with h' | h' <;> simp_all⟩
    · left; simpa using h
  clear hb
  rcases hb2 with hb2 | ⟨hb2, hhas⟩
  all_goals
    go_wp2_with (go_at_call 73; refine (has_arr r ls es w3.heap.size frame _ h1 h2 kA).mono ?_; rw [hhas]; rintro e w5 ⟨rfl, rfl⟩)
    have kF := kR.put3 (.int .i64 0) (.slice none 0 0) (.slice none 0 0)
    have hBF := below_put3 hB1 (g := w.heap.size + 1) (by omega) (.int .i64 0) (.slice none 0 0) (.slice none 0 0)
    exact bodyPost_ret (kF.res2 (P := Tryz.prog) rfl _ rfl (by kernel_rfl) (by kernel_rfl)) rfl ⟨_, rfl, TbV.zero _, TLoc.zero _ _, hBF⟩

set_option maxHeartbeats 1000000 in
theorem TSetLeaf_ok (r : Int) (ls : List Int) (es : List Nat) (v : Value) (q : Nat) (frame : Int) (w : World) (hv : TbV w v (r, ls, es)) (hs : wsmall es) (hL : LayOK w) (hE : tabE r ls es = 0) (hq : q < 8) (hf0 : 0 ≤ frame) (hf1 : frame < 256) (hr : r ≠ -1) (hb : ls.getD q 0 = -1) (hhas : hasB r ls frame = false) :
    Calls Tryz.prog 39 #[v, .int .i64 q, .int .i64 frame] w fun e w' => TbRes w w' (r, ls.set q frame, es) 0 e := by
  obtain ⟨h1, h2, hR, hLs, hDu, hSt, hUn, hMi⟩ := tab_zero hE
  obtain ⟨A, c, B, d, rfl, hA, hB, hcc⟩ := id hv
  simp only at hA hB hcc
  unfold tabV at hv ⊢
  simp only at hv ⊢
  rw [h1, h2] at hv ⊢
  rw [h1] at hA hcc
  rw [h2] at hB
  have kT := ((Bk.new (w) #[.int .i64 r, .slice A 8 c, .slice B 64 d] 26).alloc (.cells #[.int .i64 0, .slice none 0 0, .slice none 0 0] 26))
  have kR := (Bk.new (w.alloc (.cells #[.int .i64 r, .slice A 8 c, .slice B 64 d] 26)) #[.int .i64 0, .slice none 0 0, .slice none 0 0] 26)
  rw [World.size_alloc] at kR
  have hB1 := balloc (balloc (Below.refl _ w) (.cells #[.int .i64 r, .slice A 8 c, .slice B 64 d] 26)) (.cells #[.int .i64 0, .slice none 0 0, .slice none 0 0] 26)
  generalize hw_w1 : (w.alloc (.cells #[.int .i64 r, .slice A 8 c, .slice B 64 d] 26)).alloc (.cells #[.int .i64 0, .slice none 0 0, .slice none 0 0] 26) = w1 at *
  obtain ⟨cT, fT, lT⟩ := kT.facts
  have hqI : (q : Int) < 8 := by omega
  have hln := arrL_len r ls es h1 h2
  have hst := arr_store0 (arr_73 r ls es h1 h2) (arrL_one r ls es)
  go_enter Tryz.func39, Tryz.ntmps39
  go_wp2_with fail
  refine (TCheck_any r ls es _ _ (hv.to hB1) hs (hL.below hB1)).mono ?_
  rw [hE]
  rintro e w2 ⟨rfl, hb2⟩
  replace kR := kR.to hb2
  replace hB1 := bnext hB1 hb2
  clear cT fT lT
  replace kT := kT.to hb2
  obtain ⟨cT, fT, lT⟩ := kT.facts
  obtain ⟨cR, fR, lR⟩ := kR.facts
  go_upto_region 6 with (go_at_call 70; refine (isFrame_t frame _ hf0 hf1).mono ?_; rintro e w4 ⟨rfl, rfl⟩)
  go_wp2_with fail
  refine (load_any r A B c d ls es _ h1 h2 (hA.below hB1 (Nat.le_refl _)) (hB.below hB1 (Nat.le_refl _))).mono ?_
  rintro e w3 ⟨rfl, hb3⟩
  replace kR := kR.to hb3
  replace hB1 := bnext hB1 hb3
  have hw13 : w.heap.size + 1 < w3.heap.size := kR.lt
  clear cT fT lT cR fR lR
  go_upto_region 7 with fail
  have kA := (Bk.new (w3) (arrL r ls es).toArray 108)
  have hB4 := balloc (Below.refl _ w3) (.cells (arrL r ls es).toArray 108)
  generalize hw_w4 : (w3).alloc (.cells (arrL r ls es).toArray 108) = w4 at *
  replace kR := kR.to hB4
  replace hB1 := bnext hB1 hB4
  clear hst hw_w1 hw_w4 hB4
  obtain ⟨cR, fR, lR⟩ := kR.facts
  have c0 := arr_root kA
  have lA := kA.lt
  have ce := arr_leaf h1 kA hq
  have hd : (r == -1) = false := by simpa using hr
  rw [hb] at ce
  obtain ⟨cA, fA, _⟩ := kA.facts
  clear cA
  go_upto_region 12 with (go_at_call 73; refine (has_arr r ls es w3.heap.size frame _ h1 h2 kA).mono ?_; rw [hhas]; rintro e w5 ⟨rfl, rfl⟩)
  have kA2 := kA.put (1 + q) (.int .i64 frame)
  rw [arr_setleaf h1 q hq frame] at kA2
  have kR2 := kR.far (p := ⟨w3.heap.size, 1 + q, none⟩) (by show w.heap.size + 1 ≠ w3.heap.size; omega) (.int .i64 frame)
  have hB2 := hB1.setCell (p := ⟨w3.heap.size, 1 + q, none⟩) (by show w.heap.size ≤ w3.heap.size; omega) (.int .i64 frame)
  clear ce fA cR fR lR lA c0
  generalize w4.setCell ⟨w3.heap.size, 1 + q, none⟩ (.int .i64 frame) = w5 at *
  have h1' : (ls.set q frame).length = 8 := by simpa using h1
  have h2' := h2
  apply wp_region_lit
  refine wpList_load_arr h1' h2' kA2 rfl _ rfl rfl ?_
  go_frame
  go_wp2_with fail
  refine (table_any r (ls.set q frame) es _ h1' h2').mono ?_
  rintro e w6 ⟨rfl, kB, hb6⟩
  have hw5 : w.heap.size + 1 < w5.heap.size := kR2.lt
  replace kR2 := kR2.to hb6
  replace hB2 := hB2.trans (hb6.mono hB2.size)
  obtain ⟨cR, fR, lR⟩ := kR2.facts
  go_wp2_with fail
  have kF := kR2.put3 (.int .i64 r) (.slice (some ⟨w5.heap.size, 1, none⟩) 8 8) (.slice (some ⟨w5.heap.size, 9, none⟩) 64 64)
  have kB2 := kB.far3 (g := w.heap.size + 1) (by omega) (.int .i64 r) (.slice (some ⟨w5.heap.size, 1, none⟩) 8 8) (.slice (some ⟨w5.heap.size, 9, none⟩) 64 64)
  have hBF := below_put3 hB2 (g := w.heap.size + 1) (by omega) (.int .i64 r) (.slice (some ⟨w5.heap.size, 1, none⟩) 8 8) (.slice (some ⟨w5.heap.size, 9, none⟩) 64 64)
  exact bodyPost_ret (kF.res2 (P := Tryz.prog) rfl _ rfl (by kernel_rfl) (by kernel_rfl)) rfl ⟨_, rfl, arr_tbv h1' h2' kB2, TLoc.arr (by omega) _, hBF⟩

theorem TSetLeaf_any (r : Int) (ls : List Int) (es : List Nat) (v : Value) (leaf frame : Int) (w : World) (hv : TbV w v (r, ls, es)) (hs : wsmall es) (hL : LayOK w) :
    Calls Tryz.prog 39 #[v, .int .i64 leaf, .int .i64 frame] w fun e w' => TbRes w w' (leafR r ls es leaf frame).1 (leafR r ls es leaf frame).2 e := by
  by_cases h : tabE r ls es = 0
  · by_cases h2 : leaf < 0 ∨ 8 ≤ leaf ∨ frame < 0 ∨ 256 ≤ frame
    · have hE : leafE r ls es leaf frame = 2 := by unfold leafE; rw [orE_r _ h, if_pos h2]
      have hR : leafR r ls es leaf frame = (tb0, 2) := by unfold leafR; rw [if_pos (by omega), hE]
      rw [hR]
      exact TSetLeaf_bad2 r ls es v leaf frame w hv hs hL h h2
    · obtain ⟨q, rfl⟩ : ∃ q : Nat, leaf = q := ⟨leaf.toNat, by omega⟩
      by_cases h3 : r = -1
      · have hE : leafE r ls es q frame = 9 := by unfold leafE; rw [orE_r _ h, if_neg h2, if_pos h3]
        have hR : leafR r ls es q frame = (tb0, 9) := by unfold leafR; rw [if_pos (by omega), hE]
        rw [hR]
        exact TSetLeaf_bad3 r ls es v q frame w hv hs hL h (by omega) (by omega) (by omega) h3
      · by_cases h4 : ls.getD q 0 ≠ -1 ∨ frame = r ∨ frame ∈ ls
        · have hE : leafE r ls es q frame = 7 := by unfold leafE; rw [orE_r _ h, if_neg h2, if_neg h3, Int.toNat_natCast, if_pos h4]
          have hR : leafR r ls es q frame = (tb0, 7) := by unfold leafR; rw [if_pos (by omega), hE]
          rw [hR]
          refine TSetLeaf_bad4 r ls es v q frame w hv hs hL h (by omega) (by omega) (by omega) h3 ?_
          rcases h4 with h4 | h4
          · exact .inl h4
          · exact .inr (by unfold hasB; exact decide_eq_true h4)
        · have hE : leafE r ls es q frame = 0 := by unfold leafE; rw [orE_r _ h, if_neg h2, if_neg h3, Int.toNat_natCast, if_neg h4]
          have hR : leafR r ls es q frame = ((r, ls.set q frame, es), 0) := by unfold leafR; rw [if_neg (by omega), Int.toNat_natCast]
          rw [hR]
          refine TSetLeaf_ok r ls es v q frame w hv hs hL h (by omega) (by omega) (by omega) h3 ?_ ?_
          · exact Classical.byContradiction fun hc => h4 (.inl hc)
          · unfold hasB; exact decide_eq_false fun hc => h4 (.inr hc)
  · have hE : leafE r ls es leaf frame = tabE r ls es := by unfold leafE; rw [orE_l _ h]
    have hR : leafR r ls es leaf frame = (tb0, tabE r ls es) := by unfold leafR; rw [if_pos (by rw [hE]; exact h), hE]
    rw [hR]
    exact TSetLeaf_bad1 r ls es v leaf frame w hv hs hL h
end Go.Proofs.YtpkgfkhaiifooaaGreatDoor
