/- cow.decode: the entries of a table. -/
import Derived.Test.YtomndlnfidkdcaaDoorCow6
namespace Go.Proofs.YtomndlnfidkdcaaDoor
open Go Go.Proofs Go.RowKit Go.Maps
set_option linter.unusedSimpArgs false
set_option linter.unusedVariables false
set_option maxRecDepth 100000

theorem run_index64 (w : World) (ws : List Nat) (h1 : ws.length = 64) (k : Nat) (hk : k < 64) :
    (Instr.index 99 (kt ws) (.int .i64 k)).run Tryd.prog w = .ok (.int .u64 ((ws.getD k 0 : Nat) : Int)) w := by
  have hu : Tryd.prog.underlying 99 = some (.array 64 52) := by kernel_rfl
  have hi : (Tryd.prog.info? 52).map (·.size) = some 1 := by kernel_rfl
  obtain ⟨i, hi, hsz⟩ := Option.map_eq_some_iff.1 hi
  have hu3 : (Tryd.prog.underlying 52).map (·.isRow) = some false := by kernel_rfl
  obtain ⟨d3, hu3, hd3⟩ := Option.map_eq_some_iff.1 hu3
  have ha : (isAgg 52).run Tryd.prog w = .ok false w := by
    unfold isAgg
    rw [Sem.run_bind, run_underlying hu3 w]
    cases d3 <;> simp_all
  have hl : k < ws.length := by omega
  have hlt : (k : Int) < 64 := by omega
  unfold kt
  simp [Instr.index, asIntOf, run_underlying hu, sizeOf, typeInfo, hi, hsz, hlt, part, ha, uw, hl]
  intro h
  omega
theorem eql_words (w : World) (a b : List Nat) (ha : a.length = 64) (hb : b.length = 64) (sa : wsmall a) (sb : wsmall b) (r : Bool) (hr : r = decide (a = b)) :
    (Op.equal 99 (kt a) (kt b)).run Tryd.prog w = .ok r w := by
  obtain ⟨la, hla⟩ := keyT a ha sa
  obtain ⟨lb, hlb⟩ := keyT b hb sb
  obtain ⟨q, hq, hiff⟩ := run_equal_deep (P := Tryd.prog) w (m := 2) (by omega) (k := 99) (by kernel_rfl) (by kernel_rfl) hla hlb
  rw [hq]
  congr 1
  rw [hr, Bool.eq_iff_iff, hiff, decide_eq_true_iff]
  constructor
  · rintro rfl
    exact kt_inj a b (lawT.inj hla hlb)
  · rintro rfl
    rw [hla] at hlb
    injection hlb

/-- Cells of a row of entries. -/
def enF (l : Nat → En5) (c : Nat) : Value := (enC (l (c / 5))).getD (c % 5) undef
/-- Block g is a row of n entries. -/
def EnRow (w : World) (g n : Nat) (l : Nat → En5) : Prop := w.rowIs g 61 (n * 5) (enF l)
theorem enF_at (l : Nat → En5) (q : Nat) : enF l (q * 5) = .int .i64 (l q).1 ∧ enF l (q * 5 + 1) = .int .i64 (l q).2.1 ∧ enF l (q * 5 + 2) = .bool (l q).2.2.1 ∧ enF l (q * 5 + 3) = .bool (l q).2.2.2.1 ∧ enF l (q * 5 + 4) = .bool (l q).2.2.2.2 := by
  unfold enF
  refine ⟨?_, ?_, ?_, ?_, ?_⟩
  · rw [show q * 5 / 5 = q by omega, show q * 5 % 5 = 0 by omega]; rfl
  · rw [show (q * 5 + 1) / 5 = q by omega, show (q * 5 + 1) % 5 = 1 by omega]; rfl
  · rw [show (q * 5 + 2) / 5 = q by omega, show (q * 5 + 2) % 5 = 2 by omega]; rfl
  · rw [show (q * 5 + 3) / 5 = q by omega, show (q * 5 + 3) % 5 = 3 by omega]; rfl
  · rw [show (q * 5 + 4) / 5 = q by omega, show (q * 5 + 4) % 5 = 4 by omega]; rfl
/-- The world behind the store of an entry. -/
abbrev putEn (w : World) (g q : Nat) (e : En5) : World :=
  ((((w.setCell ⟨g, q * 5, none⟩ (.int .i64 e.1)).setCell ⟨g, q * 5 + 1, none⟩ (.int .i64 e.2.1)).setCell ⟨g, q * 5 + 2, none⟩ (.bool e.2.2.1)).setCell ⟨g, q * 5 + 3, none⟩ (.bool e.2.2.2.1)).setCell ⟨g, q * 5 + 4, none⟩ (.bool e.2.2.2.2)
section
variable {w w' : World} {g n : Nat} {l : Nat → En5}
theorem EnRow.put (h : EnRow w g n l) (q : Nat) (e : En5) : EnRow (putEn w g q e) g n (fun j => if j = q then e else l j) := by
  unfold EnRow at h ⊢
  refine (((((h.set (q * 5) _).set (q * 5 + 1) _).set (q * 5 + 2) _).set (q * 5 + 3) _).set (q * 5 + 4) _).congr fun c hc => ?_
  obtain ⟨a0, a1, a2, a3, a4⟩ := enF_at (fun j => if j = q then e else l j) q
  simp only [if_true] at a0 a1 a2 a3 a4
  by_cases e4 : c = q * 5 + 4
  · subst e4; rw [if_pos rfl, a4]
  rw [if_neg e4]
  by_cases e3 : c = q * 5 + 3
  · subst e3; rw [if_pos rfl, a3]
  rw [if_neg e3]
  by_cases e2 : c = q * 5 + 2
  · subst e2; rw [if_pos rfl, a2]
  rw [if_neg e2]
  by_cases e1 : c = q * 5 + 1
  · subst e1; rw [if_pos rfl, a1]
  rw [if_neg e1]
  by_cases e0 : c = q * 5
  · subst e0; rw [if_pos rfl, a0]
  rw [if_neg e0]
  unfold enF
  have : c / 5 ≠ q := by omega
  simp only [if_neg this]
theorem EnRow.congr {l' : Nat → En5} (h : EnRow w g n l) (e : ∀ j, j < n → l j = l' j) : EnRow w g n l' := by
  unfold EnRow at h ⊢
  refine World.rowIs.congr h fun c hc => ?_
  unfold enF
  rw [e (c / 5) (by omega)]
theorem EnRow.lt (h : EnRow w g n l) : g < w.heap.size := World.rowIs.lt h
theorem EnRow.to (h : EnRow w g n l) (hb : Below w.heap.size w w') : EnRow w' g n l := rowIs_block h hb
theorem EnRow.block (h : EnRow w g n l) (hb : w'.heap[g]? = w.heap[g]?) : EnRow w' g n l := World.rowIs.of_block h hb
theorem EnRow.far (h : EnRow w g n l) {g' : Nat} (hne : g ≠ g') (q : Nat) (e : En5) : EnRow (putEn w g' q e) g n l :=
  ((((World.rowIs.setOther h (a := ⟨g', q * 5, none⟩) hne _).setOther (a := ⟨g', q * 5 + 1, none⟩) hne _).setOther (a := ⟨g', q * 5 + 2, none⟩) hne _).setOther (a := ⟨g', q * 5 + 3, none⟩) hne _).setOther (a := ⟨g', q * 5 + 4, none⟩) hne _
theorem EnRow.cells (h : EnRow w g n l) {q : Nat} (hq : q < n) : w.cell? ⟨g, q * 5, none⟩ = some (.int .i64 (l q).1) ∧ w.cell? ⟨g, q * 5 + 1, none⟩ = some (.int .i64 (l q).2.1) ∧ w.cell? ⟨g, q * 5 + 2, none⟩ = some (.bool (l q).2.2.1) ∧ w.cell? ⟨g, q * 5 + 3, none⟩ = some (.bool (l q).2.2.2.1) ∧ w.cell? ⟨g, q * 5 + 4, none⟩ = some (.bool (l q).2.2.2.2) := by
  obtain ⟨a0, a1, a2, a3, a4⟩ := enF_at l q
  exact ⟨(World.rowIs.cell h (by omega)).trans (by rw [a0]), (World.rowIs.cell h (by omega)).trans (by rw [a1]), (World.rowIs.cell h (by omega)).trans (by rw [a2]), (World.rowIs.cell h (by omega)).trans (by rw [a3]), (World.rowIs.cell h (by omega)).trans (by rw [a4])⟩
theorem EnRow.frozen (h : EnRow w g n l) (c : Nat) : w.frozen? ⟨g, c, none⟩ = false := World.rowIs.frozen h c
theorem EnRow.rd (h : EnRow w g n l) (xs : List En5) (hl : xs.length ≤ n) (hx : ∀ j, j < xs.length → xs[j]? = some (l j)) : Rd w 5 (some ⟨g, 0, none⟩) xs.length (ew xs) := by
  refine ⟨ew_len xs, fun _ => ⟨g, 0, rfl, h.lt, fun c u hu => ?_⟩⟩
  have hc : c < xs.length * 5 := by have := (List.getElem?_eq_some_iff.1 hu).1; rw [ew_len] at this; exact this
  have hq : c / 5 < xs.length := by omega
  obtain ⟨a0, a1, a2, a3, a4⟩ := ew_at xs (c / 5) _ (hx _ hq)
  obtain ⟨c0, c1, c2, c3, c4⟩ := h.cells (q := c / 5) (by omega)
  rw [Nat.zero_add]
  have hcase : c = c / 5 * 5 ∨ c = c / 5 * 5 + 1 ∨ c = c / 5 * 5 + 2 ∨ c = c / 5 * 5 + 3 ∨ c = c / 5 * 5 + 4 := by omega
  rcases hcase with e | e | e | e | e
  · rw [e] at hu ⊢; rw [a0] at hu; rw [c0, hu]
  · rw [e] at hu ⊢; rw [a1] at hu; rw [c1, hu]
  · rw [e] at hu ⊢; rw [a2] at hu; rw [c2, hu]
  · rw [e] at hu ⊢; rw [a3] at hu; rw [c3, hu]
  · rw [e] at hu ⊢; rw [a4] at hu; rw [c4, hu]
end
theorem infoEn : (Tryd.prog.info? 61).map (fun i => (i.zero, i.size, i.bytes)) = some (some (.agg #[.int .i64 0, .int .i64 0, .bool false, .bool false, .bool false]), 5, 24) := by kernel_rfl
theorem run_make_en (n : Nat) (hn : n ≤ 1000) (w : World) :
    (Instr.makeSlice 69 (.int .i64 n) (.int .i64 n)).run Tryd.prog w = .ok (.slice (some ⟨w.heap.size, 0, none⟩) n n) (w.alloc (.cells (madeCells #[.int .i64 0, .int .i64 0, .bool false, .bool false, .bool false] (n * 5)) 61)) := by
  obtain ⟨i, hi, hz0, hz1, hz2⟩ := info_parts infoEn
  have hr := run_make (P := Tryd.prog) w 69 61 i _ Tryd.underlying69 hi hz0 .i64 .i64 n n (by omega) (Int.le_refl _) (by rw [hz2]; omega) (by omega)
  simp only [Int.toNat_natCast, hz1] at hr
  exact hr
theorem EnRow.made (w : World) (n : Nat) : EnRow (w.alloc (.cells (madeCells #[.int .i64 0, .int .i64 0, .bool false, .bool false, .bool false] (n * 5)) 61)) w.heap.size n (fun _ => e0) := by
  have h := World.rowIs_alloc w (madeCells #[.int .i64 0, .int .i64 0, .bool false, .bool false, .bool false] (n * 5)) 61 (enF fun _ => e0) (fun i hi => by
    rw [size_madeCells] at hi
    have h5 : i % 5 < 5 := Nat.mod_lt _ (by omega)
    have hcase : i % 5 = 0 ∨ i % 5 = 1 ∨ i % 5 = 2 ∨ i % 5 = 3 ∨ i % 5 = 4 := by omega
    unfold enF
    rcases hcase with e | e | e | e | e <;> simp [madeCells, hi, e, enC])
  rw [size_madeCells] at h
  exact h
theorem wpList_load_words {ops : Array Oper} {rest : List Oper} {op : Oper} {a : Act} {w : World} {Q : Exit → Act → World → Prop} {ws : List Nat} {b : Nat} (h1 : ws.length = 64) (kA : Bk w b (uw ws).toArray 99)
    (hgd : op.guard = none) (x : Operand) (ho : op.op = .load 99 x) (hx : a.eval x = .pointer (some ⟨b, 0, none⟩))
    (h : wpList Tryd.prog ops Q rest (a.put op.dst (.agg (uw ws).toArray)) w) : wpList Tryd.prog ops Q (op :: rest) a w := by
  have hu : (Tryd.prog.underlying 99).map (·.isRow) = some true := by kernel_rfl
  obtain ⟨d, hu, hd⟩ := Option.map_eq_some_iff.1 hu
  have hr := kA.range
  simp only at hr
  exact wpList_load_mid hgd 99 x ho b 0 hx (uw ws) d hr hu hd (by rw [uw_len, h1]; kernel_rfl) h
theorem wpList_build {P : Program} {ops : Array Oper} {rest : List Oper} {op : Oper} {a : Act} {w : World} {Q : Exit → Act → World → Prop} (hgd : op.guard = none) (t : TypeId) (parts : Array (Nat × Operand)) (ho : op.op = .build t parts)
    (cells : Array Value) (hf : P.built t (parts.map fun (i, x) => (i, a.eval x)).toList = some cells) (h : wpList P ops Q rest (a.put op.dst (.agg cells)) w) : wpList P ops Q (op :: rest) a w := by
  refine wpList_plain hgd fun K hK => ?_
  unfold Oper.wp execOp
  simp only [ho, Sem.run_bind, run_build w t _ cells hf, Result.andThen_ok]
  exact hK _ _ h
def z64 : List Nat := List.replicate 64 0
theorem z64_at (j : Nat) : z64.getD j 0 = 0 := by
  unfold z64
  rw [List.getD_eq_getElem?_getD, List.getElem?_replicate]
  split <;> rfl
theorem z64_len : z64.length = 64 := by simp [z64]
theorem z64_small : wsmall z64 := fun x hx => by rw [List.eq_of_mem_replicate hx]; omega
theorem built0 : Tryd.prog.built 99 [] = some (uw z64).toArray := by kernel_rfl
def decE (ws : List Nat) : Int := fst0 (fun k => unpE (ws.getD k 0)) 64

set_option maxHeartbeats 2000000 in
theorem decode_any (ws : List Nat) (w : World) (h1 : ws.length = 64) (hs : wsmall ws) (hL : LayOK w) :
    Calls Tryd.prog 69 #[.agg (uw ws).toArray] w fun e w' => Below w.heap.size w w' ∧
      ((decE ws = 0 ∧ e = .returned (.tuple #[.slice (some ⟨w.heap.size + 1, 0, none⟩) 64 64, .int .i64 0]) ∧ EnRow w' (w.heap.size + 1) 64 (fun j => entW (ws.getD j 0))) ∨
       (decE ws ≠ 0 ∧ e = .returned (.tuple #[.slice none 0 0, .int .i64 (decE ws)]))) := by
  have hmk := run_make_en 64 (by omega)
  replace hmk : ∀ w : World, (Instr.makeSlice 69 (.int .i64 64) (.int .i64 64)).run Tryd.prog w = .ok (.slice (some ⟨w.heap.size, 0, none⟩) 64 64) (w.alloc (.cells (madeCells #[.int .i64 0, .int .i64 0, .bool false, .bool false, .bool false] (64 * 5)) 61)) := hmk
  have Hl := Lib.hid h1
  clear h1
  have kA := (Bk.new w (uw ws).toArray 99).alloc (.cells (madeCells #[.int .i64 0, .int .i64 0, .bool false, .bool false, .bool false] (64 * 5)) 61)
  have hE := EnRow.made (w.alloc (.cells (uw ws).toArray 99)) 64
  rw [World.size_alloc] at hE
  have hB0 := balloc (balloc (Below.refl _ w) (.cells (uw ws).toArray 99)) (.cells (madeCells #[.int .i64 0, .int .i64 0, .bool false, .bool false, .bool false] (64 * 5)) 61)
  go_enter Tryd.func69, Tryd.ntmps69
  go_upto_region 2 with fail
  clear hmk
  generalize (w.alloc (.cells (uw ws).toArray 99)).alloc (.cells (madeCells #[.int .i64 0, .int .i64 0, .bool false, .bool false, .bool false] (64 * 5)) 61) = w1 at *
  obtain ⟨b, hb⟩ : ∃ b, b = decide (ws = z64) := ⟨_, rfl⟩
  have heq : ∀ W, (Op.equalIn 10000 99 (.agg (uw ws).toArray) (.agg (uw z64).toArray)).run Tryd.prog W = .ok b W := fun W => eql_words W ws z64 Hl.out z64_len hs z64_small b hb
  apply wp_region_lit
  refine wpList_load_words Hl.out kA rfl _ rfl rfl ?_
  refine wpList_build rfl 99 #[] rfl (uw z64).toArray (by simpa using built0) ?_
  go_frame
  cases b
  · have Hz : Hid (ws ≠ z64) := Lib.hid (by simpa using hb)
    clear hb
    go_upto_region 4 with fail
    clear heq
    apply wp_region_lit
    refine wpList_load_words Hl.out kA rfl _ rfl rfl ?_
    go_frame
    go_wp2_with fail
    clear kA
    go_loopw [15] (fun i wr => ∃ k : Nat, k ≤ 64 ∧ i = .int .i64 k ∧ fst0 (fun k => unpE (ws.getD k 0)) k = 0 ∧ EnRow wr (w.heap.size + 1) 64 (fun j => if j < k then entW (ws.getD j 0) else e0) ∧ Below w.heap.size w wr)
      (fun i _ => 64 - (intOf i).toNat)
    case atStart => exact ⟨0, by omega, rfl, rfl, hE.congr fun j _ => by simp, hB0⟩
    case round =>
      clear hE hB0
      obtain ⟨k, hk, rfl, hf, hE, hB⟩ := hrel
      by_cases hlt : k < 64
      · have hidx := fun W => run_index64 W ws Hl.out k hlt
        unfold kt at hidx
        obtain ⟨x, hx⟩ : ∃ x, x = ws.getD k 0 := ⟨_, rfl⟩
        have hxs : x < 18446744073709551616 := by
          rw [hx, List.getD_eq_getElem?_getD, List.getElem?_eq_getElem (by rw [Hl.out]; exact hlt)]
          exact hs _ (List.getElem_mem _)
        rw [← hx] at hidx
        have HX := Lib.hid hx
        have HF := Lib.hid hf
        clear hx hf
        go_wp2_with fail
        refine (Unpack_any x _ hxs (hL.below hB)).mono ?_
        unfold EnRes
        have hER := unpR_err x
        have hEW : (unpR x).1 = entW x := rfl
        rw [hER, hEW]
        clear hER hEW
        by_cases hu : unpE x = 0
        · rw [hu]
          rcases hent : entW x with ⟨k0, n0, a0, b0, c0⟩
          have HENT := Lib.hid hent
          clear hent
          rintro e w2 ⟨rfl, hb2⟩
          simp only
          have hE2 := hE.to hb2
          have hB2 := bnext hB hb2
          obtain ⟨s0, s1, s2, s3, s4⟩ := hE2.cells hlt
          have hfr := hE2.frozen
          have hlE := hE2.lt
          clear hidx hb2
          have hP := ((hE2.put k (k0, n0, a0, b0, c0)).congr (l' := fun j => if j < k + 1 then entW (ws.getD j 0) else e0) (fun j hj => by
            have h1 := HENT.out
            rw [HX.out] at h1
            by_cases e1 : j = k
            · simp only [if_pos e1, if_pos (show j < k + 1 by omega)]
              rw [e1]
              exact h1.symm
            · simp only [if_neg e1]
              by_cases h2 : j < k
              · rw [if_pos h2, if_pos (by omega)]
              · rw [if_neg h2, if_neg (by omega)])).to (balloc (Below.refl _ _) (.cells #[.int .i64 k0, .int .i64 n0, .bool a0, .bool b0, .bool c0] 61))
          have hBP : Below w.heap.size w (putEn w2 (w.heap.size + 1) k (k0, n0, a0, b0, c0)) := ((((hB2.setCell (p := ⟨w.heap.size + 1, k * 5, none⟩) (Nat.le_succ _) _).setCell (p := ⟨w.heap.size + 1, k * 5 + 1, none⟩) (Nat.le_succ _) _).setCell (p := ⟨w.heap.size + 1, k * 5 + 2, none⟩) (Nat.le_succ _) _).setCell (p := ⟨w.heap.size + 1, k * 5 + 3, none⟩) (Nat.le_succ _) _).setCell (p := ⟨w.heap.size + 1, k * 5 + 4, none⟩) (Nat.le_succ _) _
          have hf1 := fst0_step (fun k => unpE (ws.getD k 0)) k HF.out (by rw [← HX.out]; exact hu)
          have Hf1 := Lib.hid hf1
          have HP1 := Lib.hid hP
          clear hf1 hP hE2 hE
          go_wp2
          exact ⟨⟨k + 1, by omega, by go_num, Hf1.out, HP1.out, balloc hBP _⟩, by simp [intOf]; omega⟩
        · have hd : decE ws = unpE x := by
            have h2 := HX.out
            unfold decE
            rw [fst0_hit (fun k => unpE (ws.getD k 0)) k 64 HF.out (by rw [← h2]; exact hu) hlt]
            rw [← h2]
          have hne : (unpE x != 0) = true := by simpa using hu
          have HD := Lib.hid hd
          have HU := Lib.hid hu
          clear hd hu
          rintro e w2 ⟨rfl, hb2⟩
          have hB2 := bnext hB hb2
          clear hidx hb2
          go_wp2
          go_ret2
          exact ⟨balloc hB2 _, .inr ⟨by rw [HD.out]; exact HU.out, by rw [HD.out]; rfl⟩⟩
      · obtain rfl : k = 64 := by omega
        go_wp2
        go_ret2
        exact ⟨hB, .inl ⟨hf, rfl, hE.congr fun j hj => if_pos hj⟩⟩
  · have Hz : Hid (ws = z64) := Lib.hid (by simpa using hb)
    clear hb
    go_wp2_with fail
    go_ret2
    refine ⟨hB0, .inl ⟨?_, rfl, hE.congr fun j hj => ?_⟩⟩
    · unfold decE
      rw [fst0_zero]
      intro k hk
      rw [Hz.out, z64_at]
      exact unpE_nil
    · rw [Hz.out, z64_at]
      exact entW_nil.symm
end Go.Proofs.YtomndlnfidkdcaaDoor
