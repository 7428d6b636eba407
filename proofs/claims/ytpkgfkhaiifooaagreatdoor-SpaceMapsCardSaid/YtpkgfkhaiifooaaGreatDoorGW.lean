/- Several texts in one. -/
import Derived.Test.YtpkgfkhaiifooaaGreatDoorGV
import Derived.Defers
/- Page tables: isEmpty and release. -/
namespace Go.Proofs.YtpkgfkhaiifooaaGreatDoor
open Go Go.Proofs Go.RowKit
set_option linter.unusedSimpArgs false
set_option linter.unusedVariables false
set_option maxRecDepth 100000

def emptyK (es : List Nat) (leaf k : Nat) : Bool := (List.range k).all fun i => unpK (es.getD (leaf * 8 + i) 0) == 0
theorem emptyK_succ (es : List Nat) (leaf k : Nat) : emptyK es leaf (k + 1) = (emptyK es leaf k && (unpK (es.getD (leaf * 8 + k) 0) == 0)) := by simp [emptyK, List.range_succ]
theorem emptyK_no (es : List Nat) (leaf k : Nat) (hk : k < 8) (h : unpK (es.getD (leaf * 8 + k) 0) ≠ 0) : emptyB es leaf = false := by
  unfold emptyB
  rw [Bool.eq_false_iff]
  intro hc
  have := List.all_eq_true.1 hc k (List.mem_range.2 hk)
  exact h (by simpa using this)

set_option maxHeartbeats 1000000 in
theorem isEmpty_arr (r : Int) (ls : List Int) (es : List Nat) (b q : Nat) (w : World) (h1 : ls.length = 8) (h2 : es.length = 64) (hq : q < 8) (hs : wsmall es) (hU : ∀ p, p < 64 → unpE (es.getD p 0) = 0) (kA : Bk w b (arrL r ls es).toArray 108) (hL : LayOK w) :
    Calls Tryz.prog 105 #[.pointer (some ⟨b, 0, none⟩), .int .i64 q] w fun e w' => e = .returned (.bool (emptyB es q)) ∧ Below w.heap.size w w' := by
  go_enter Tryz.func105, Tryz.ntmps105
  go_wp2_with fail
  go_loopw [8] (fun i wr => ∃ k : Nat, k ≤ 8 ∧ i = .int .i64 k ∧ Hid (emptyK es q k = true) ∧ Below w.heap.size w wr) (fun i _ => 8 - (intOf i).toNat)
  case atStart => exact ⟨0, by omega, rfl, Lib.hid rfl, Below.refl _ _⟩
  case round =>
    obtain ⟨k, hk, rfl, Hno, hBx⟩ := hrel
    by_cases hlt : k < 8
    · have kA2 := kA.to hBx
      have lA := kA2.lt
      have ce := arr_ent h1 h2 kA2 (show q * 8 + k < 64 by omega)
      have hxs := getD_small hs (q * 8 + k) (by omega)
      have hux := hU (q * 8 + k) (by omega)
      have hpI : ((q * 8 + k : Nat) : Int) < 64 := by omega
      have HS := Lib.hid (emptyK_succ es q k)
      have HN := Lib.hid (emptyK_no es q k hlt)
      obtain ⟨x, hx⟩ : ∃ x, x = es.getD (q * 8 + k) 0 := ⟨_, rfl⟩
      rw [← hx] at ce hxs hux HS HN
      clear hx
      have HK := Lib.hid (fun W => kind_any x W hxs hux)
      obtain ⟨kx, hkx⟩ : ∃ kx, kx = unpK x := ⟨_, rfl⟩
      rw [← hkx] at HK HS HN
      clear hkx
      have hPg := fun W => Page_nat q k W hq hlt
      have hLr := hL.below hBx
      obtain ⟨pp, hpp⟩ : ∃ pp, pp = q * 8 + k := ⟨_, rfl⟩
      rw [← hpp] at ce hpI hPg
      clear hpp
      by_cases hk0 : kx = 0
      · have d1 : (kx != 0) = false := by simp [hk0]
        have HS2 : Hid (emptyK es q (k + 1) = true) := Lib.hid (by rw [HS.out, Hno.out, hk0]; rfl)
        clear hk0 HS HN
        go_wp2_with (first
          | (go_at_call 109; refine (hPg _).mono ?_; rintro e w7 ⟨rfl, rfl⟩)
          | (go_at_call 91; refine (HK.out _ hLr).mono ?_; rintro e w8 ⟨rfl, hb8⟩))
        go_roundw
        case rel => exact ⟨k + 1, by omega, by go_num, HS2, bnext hBx hb8⟩
        case measure => simp [intOf]; omega
      · have d1 : (kx != 0) = true := by simp [hk0]
        have HV := Lib.hid (HN.out hk0)
        clear hk0 HS HN
        go_wp2_with (first
          | (go_at_call 109; refine (hPg _).mono ?_; rintro e w7 ⟨rfl, rfl⟩)
          | (go_at_call 91; refine (HK.out _ hLr).mono ?_; rintro e w8 ⟨rfl, hb8⟩))
        go_ret
        exact ⟨by rw [HV.out]; rfl, bnext hBx hb8⟩
    · obtain rfl : k = 8 := by omega
      have HV : Hid (emptyB es q = true) := Lib.hid Hno.out
      go_wp2_with fail
      go_ret
      exact ⟨by rw [HV.out]; rfl, hBx⟩

theorem rel1_no (B1 B2 B3 : Nat) (u : FrameMode) (w : World) (hc : w.cell? ⟨B3, 0, none⟩ = some (.int .i64 (-1))) :
    CallsD Tryz.prog 104 #[.pointer (some ⟨B3, 0, none⟩), .pointer (some ⟨B1, 0, none⟩), .pointer (some ⟨B2, 0, none⟩)] u w fun e u' w' => u' = u ∧ (e = .returned (.tuple #[]) ∧ w' = w) := by
  go_enter_d Tryz.func104, Tryz.ntmps104
  go_wp2_with fail
  go_end0
  exact ⟨rfl, rfl⟩

theorem rel1_yes (r : Int) (ls : List Int) (es : List Nat) (b q B1 B2 B3 : Nat) (f : Int) (u : FrameMode) (w : World) (h1 : ls.length = 8) (hq : q < 8) (kA : Bk w b (arrL r ls es).toArray 108) (hf : f ≠ -1)
    (hc3 : w.cell? ⟨B3, 0, none⟩ = some (.int .i64 f)) (hc1 : w.cell? ⟨B1, 0, none⟩ = some (.pointer (some ⟨b, 0, none⟩))) (hc2 : w.cell? ⟨B2, 0, none⟩ = some (.int .i64 q)) :
    CallsD Tryz.prog 104 #[.pointer (some ⟨B3, 0, none⟩), .pointer (some ⟨B1, 0, none⟩), .pointer (some ⟨B2, 0, none⟩)] u w fun e u' w' => u' = u ∧ (e = .returned (.tuple #[]) ∧ w' = (w.setCell ⟨b, 1 + q, none⟩ (.int .i64 (-1))).drew) := by
  have hd : (f != -1) = true := by simpa using hf
  have cl := arr_leaf h1 kA hq
  have fl := kA.frozen (1 + q)
  have hqI : (q : Int) < 8 := by omega
  have lA := kA.lt
  go_enter_d Tryz.func104, Tryz.ntmps104
  go_wp2_with fail
  go_still_tail 5, (by kernel_rfl)
  change wpList _ _ _ _ _ w.drew
  go_wp2_with fail
  go_end0
  exact ⟨rfl, rfl⟩
end Go.Proofs.YtpkgfkhaiifooaaGreatDoor
/- Page tables: release. -/
namespace Go.Proofs.YtpkgfkhaiifooaaGreatDoor
open Go Go.Proofs Go.RowKit
set_option linter.unusedSimpArgs false
set_option linter.unusedVariables false
set_option maxRecDepth 100000

/-- The frame that release returns, and the leaves behind it. -/
def relF (ls : List Int) (es : List Nat) (q : Nat) : Int := if emptyB es q then ls.getD q 0 else -1
def relL (ls : List Int) (es : List Nat) (q : Nat) : List Int := if emptyB es q then ls.set q (-1) else ls
/-- All old blocks but b are as they were. -/
def Beside (b : Nat) (w w' : World) : Prop := Below b w w' ∧ ∀ j, j < w.heap.size → j ≠ b → w'.heap[j]? = w.heap[j]?
theorem Beside.of {b : Nat} {w w' : World} (h : Below w.heap.size w w') (hb : b < w.heap.size) : Beside b w w' := ⟨h.mono (by omega), fun j hj _ => h.block j hj⟩

def RelPost (r : Int) (ls : List Int) (es : List Nat) (b q : Nat) (w : World) (e : Ending) (w' : World) : Prop :=
  e = .returned (.int .i64 (relF ls es q)) ∧ Bk w' b (arrL r (relL ls es q) es).toArray 108 ∧ Beside b w w'

section
variable {w w1 : World} {b q : Nat}
theorem relB (w : World) (b q : Nat) : Below w.heap.size w (((w.alloc (.cells #[.pointer (some ⟨b, 0, none⟩)] 129)).alloc (.cells #[.int .i64 q] 3)).alloc (.cells #[.int .i64 (-1)] 3)) := balloc (balloc (balloc (Below.refl _ w) _) _) _
end

set_option maxHeartbeats 2000000 in
theorem release_arr (r : Int) (ls : List Int) (es : List Nat) (b q : Nat) (w : World) (h1 : ls.length = 8) (h2 : es.length = 64) (hq : q < 8) (hs : wsmall es) (hU : ∀ p, p < 64 → unpE (es.getD p 0) = 0) (kA : Bk w b (arrL r ls es).toArray 108) (hL : LayOK w) :
    Calls Tryz.prog 92 #[.pointer (some ⟨b, 0, none⟩), .int .i64 q] w fun e w' => RelPost r ls es b q w e w' := by
  have hmf : ∀ (fn : Fn) (first cap : Array Value) (w : World), (Instr.makeFunc fn first cap).run Tryz.prog w = .ok (.func fn first cap) w := fun _ _ _ _ => rfl
  have k1 := ((Bk.new w #[.pointer (some ⟨b, 0, none⟩)] 129).alloc (.cells #[.int .i64 q] 3)).alloc (.cells #[.int .i64 (-1)] 3)
  have k2 := (Bk.new (w.alloc (.cells #[.pointer (some ⟨b, 0, none⟩)] 129)) #[.int .i64 q] 3).alloc (.cells #[.int .i64 (-1)] 3)
  have k3 := Bk.new ((w.alloc (.cells #[.pointer (some ⟨b, 0, none⟩)] 129)).alloc (.cells #[.int .i64 q] 3)) #[.int .i64 (-1)] 3
  rw [World.size_alloc] at k2
  rw [World.size_alloc, World.size_alloc] at k3
  have hB1 := relB w b q
  generalize hw1 : ((w.alloc (.cells #[.pointer (some ⟨b, 0, none⟩)] 129)).alloc (.cells #[.int .i64 q] 3)).alloc (.cells #[.int .i64 (-1)] 3) = w1 at *
  have hbw : b < w.heap.size := kA.lt
  obtain ⟨c1, f1, l1⟩ := k1.facts
  obtain ⟨c2, f2, l2⟩ := k2.facts
  obtain ⟨c3, f3, l3⟩ := k3.facts
  rcases hem : emptyB es q with _ | _
  · have HE := Lib.hid hem
    clear hem
    go_enter_defers Tryz.func92, Tryz.ntmps92
    go_wp2_with fail
    refine (isEmpty_arr r ls es b q _ h1 h2 hq hs hU (kA.to hB1) (hL.below hB1)).mono ?_
    rw [HE.out]
    rintro e w2 ⟨rfl, hb2⟩
    clear c1 f1 l1 c2 f2 l2 c3 f3 l3
    replace k3 := k3.to hb2
    replace hB1 := bnext hB1 hb2
    obtain ⟨c3, f3, l3⟩ := k3.facts
    go_wp2_with fail
    have k4 := k3.put 0 (.int .i64 (-1))
    have hB4 := hB1.setCell (p := ⟨w.heap.size + 1 + 1, 0, none⟩) (by show w.heap.size ≤ w.heap.size + 1 + 1; omega) (.int .i64 (-1))
    generalize w2.setCell ⟨w.heap.size + 1 + 1, 0, none⟩ (.int .i64 (-1)) = w4 at *
    have hc4 : w4.cell? ⟨w.heap.size + 1 + 1, 0, none⟩ = some (.int .i64 (-1)) := k4.cell 0
    refine leaves_cons (f := 104) (args := #[.pointer (some ⟨w.heap.size + 1 + 1, 0, none⟩), .pointer (some ⟨w.heap.size, 0, none⟩), .pointer (some ⟨w.heap.size + 1, 0, none⟩)]) (by simp) (by simp [go_sem]) ?_
    refine (rel1_no _ _ _ .returning _ hc4).mono ?_
    rintro e u' w'' ⟨rfl, rfl, rfl⟩
    refine ⟨.int .i64 (-1), by simp [results, Tryz.results92, asAddr, go_sem, hc4], ?_⟩
    refine ⟨?_, ?_, Beside.of hB4 hbw⟩
    · unfold relF; rw [HE.out]; rfl
    · unfold relL; rw [HE.out]; exact kA.to hB4
  · have HE := Lib.hid hem
    clear hem
    go_enter_defers Tryz.func92, Tryz.ntmps92
    go_wp2_with fail
    refine (isEmpty_arr r ls es b q _ h1 h2 hq hs hU (kA.to hB1) (hL.below hB1)).mono ?_
    rw [HE.out]
    rintro e w2 ⟨rfl, hb2⟩
    clear c1 f1 l1 c2 f2 l2 c3 f3 l3
    replace k1 := k1.to hb2
    replace k2 := k2.to hb2
    replace k3 := k3.to hb2
    replace hB1 := bnext hB1 hb2
    obtain ⟨c1, f1, l1⟩ := k1.facts
    obtain ⟨c2, f2, l2⟩ := k2.facts
    obtain ⟨c3, f3, l3⟩ := k3.facts
    have kA2 := kA.to hB1
    have cl := arr_leaf h1 kA2 hq
    have lA := kA2.lt
    have hqI : (q : Int) < 8 := by omega
    obtain ⟨z, hz⟩ : ∃ z, z = ls.getD q 0 := ⟨_, rfl⟩
    rw [← hz] at cl
    have HZ := Lib.hid hz
    clear hz
    go_wp2_with fail
    go_still_tail 6, (by kernel_rfl)
    change wpList _ _ _ _ _ w2.drew
    go_wp2_with fail
    have h3 : w.heap.size ≤ w.heap.size + 1 + 1 := by omega
    have k4 := ((k3.put 0 (.int .i64 z)).put 0 (.int .i64 z)).drew
    have k1' := ((k1.far (p := ⟨w.heap.size + 1 + 1, 0, none⟩) (by show w.heap.size ≠ w.heap.size + 1 + 1; omega) (.int .i64 z)).far (p := ⟨w.heap.size + 1 + 1, 0, none⟩) (by show w.heap.size ≠ w.heap.size + 1 + 1; omega) (.int .i64 z)).drew
    have k2' := ((k2.far (p := ⟨w.heap.size + 1 + 1, 0, none⟩) (by show w.heap.size + 1 ≠ w.heap.size + 1 + 1; omega) (.int .i64 z)).far (p := ⟨w.heap.size + 1 + 1, 0, none⟩) (by show w.heap.size + 1 ≠ w.heap.size + 1 + 1; omega) (.int .i64 z)).drew
    have hB4 := below_drew ((hB1.setCell (p := ⟨w.heap.size + 1 + 1, 0, none⟩) h3 (.int .i64 z)).setCell (p := ⟨w.heap.size + 1 + 1, 0, none⟩) h3 (.int .i64 z))
    clear c1 f1 l1 c2 f2 l2 c3 f3 l3 cl lA
    generalize ((w2.setCell ⟨w.heap.size + 1 + 1, 0, none⟩ (.int .i64 z)).setCell ⟨w.heap.size + 1 + 1, 0, none⟩ (.int .i64 z)).drew = w4 at *
    have hc4 : w4.cell? ⟨w.heap.size + 1 + 1, 0, none⟩ = some (.int .i64 z) := k4.cell 0
    have kA4 := kA.to hB4
    have hrF : relF ls es q = z := by unfold relF; rw [HE.out, HZ.out]; rfl
    have hrL : relL ls es q = ls.set q (-1) := by unfold relL; rw [HE.out]; rfl
    refine leaves_cons (f := 104) (args := #[.pointer (some ⟨w.heap.size + 1 + 1, 0, none⟩), .pointer (some ⟨w.heap.size, 0, none⟩), .pointer (some ⟨w.heap.size + 1, 0, none⟩)]) (by simp) (by simp [go_sem]) ?_
    by_cases hz1 : z = -1
    · rw [hz1] at hc4
      refine (rel1_no _ _ _ .returning _ hc4).mono ?_
      rintro e u' w'' ⟨rfl, rfl, rfl⟩
      refine ⟨.int .i64 (-1), by simp [results, Tryz.results92, asAddr, go_sem, hc4], ?_⟩
      refine ⟨by rw [hrF, hz1], ?_, Beside.of hB4 hbw⟩
      rw [hrL]
      have hse : ls.set q (-1) = ls := by
        have hl : q < ls.length := by omega
        have hg := HZ.out
        rw [hz1, List.getD_eq_getElem?_getD, List.getElem?_eq_getElem hl] at hg
        rw [hg]
        exact List.set_getElem_self hl
      rw [hse]
      exact kA4
    · refine (rel1_yes r ls es b q _ _ _ z .returning _ h1 hq kA4 hz1 hc4 (k1'.cell 0) (k2'.cell 0)).mono ?_
      rintro e u' w'' ⟨rfl, rfl, rfl⟩
      have k5 := (k4.far (p := ⟨b, 1 + q, none⟩) (by show w.heap.size + 1 + 1 ≠ b; omega) (.int .i64 (-1))).drew
      have hc5 : (w4.setCell ⟨b, 1 + q, none⟩ (.int .i64 (-1))).drew.cell? ⟨w.heap.size + 1 + 1, 0, none⟩ = some (.int .i64 z) := k5.cell 0
      have kA5 := (kA4.put (1 + q) (.int .i64 (-1))).drew
      rw [arr_setleaf h1 q hq (-1)] at kA5
      have hbe : Beside b w (w4.setCell ⟨b, 1 + q, none⟩ (.int .i64 (-1))).drew :=
        ⟨below_drew ((show Below b w w4 from hB4.mono (by omega)).setCell (p := ⟨b, 1 + q, none⟩) (Nat.le_refl _) _), fun j hj hne => (Below.heap_setCell w4 ⟨b, 1 + q, none⟩ _ j hne).trans (hB4.block j hj)⟩
      refine ⟨.int .i64 z, ?_, by rw [hrF], by rw [hrL]; exact kA5, hbe⟩
      generalize (w4.setCell ⟨b, 1 + q, none⟩ (.int .i64 (-1))).drew = w5 at *
      simp [results, Tryz.results92, asAddr, go_sem, hc5]
end Go.Proofs.YtpkgfkhaiifooaaGreatDoor
/- Page tables: Clear. -/
namespace Go.Proofs.YtpkgfkhaiifooaaGreatDoor
open Go Go.Proofs Go.RowKit
set_option linter.unusedSimpArgs false
set_option linter.unusedVariables false
set_option maxRecDepth 100000

/-- A table, a number and an error that a call returned. -/
def TbRes3 (w w' : World) (t : Tb) (f er : Int) (e : Ending) : Prop := ∃ v, e = .returned (.tuple #[v, .int .i64 f, .int .i64 er]) ∧ TbV w' v t ∧ Below w.heap.size w w'
def TbRes3L (w w' : World) (t : Tb) (f er : Int) (e : Ending) : Prop := ∃ v, e = .returned (.tuple #[v, .int .i64 f, .int .i64 er]) ∧ TbV w' v t ∧ TLoc w.heap.size v ∧ Below w.heap.size w w'
theorem unp_set0 {es : List Nat} (h2 : es.length = 64) (hU : ∀ p, p < 64 → unpE (es.getD p 0) = 0) (p : Nat) : ∀ j, j < 64 → unpE ((es.set p 0).getD j 0) = 0 := by
  intro j hj
  rw [List.getD_eq_getElem?_getD, List.getElem?_set]
  by_cases h : p = j
  · subst h
    rw [if_pos rfl, if_pos (by omega)]
    rfl
  · rw [if_neg h]
    have := hU j hj
    rwa [List.getD_eq_getElem?_getD] at this

set_option maxHeartbeats 1000000 in
theorem TClear_bad1 (r : Int) (ls : List Int) (es : List Nat) (v : Value) (page : Int) (w : World) (hv : TbV w v (r, ls, es)) (hs : wsmall es) (hL : LayOK w) (hA : askE r ls es page ≠ 0) :
    Calls Tryz.prog 65 #[v, .int .i64 page] w fun e w' => TbRes3L w w' tb0 0 (askE r ls es page) e := by
  obtain ⟨A, c, B, d, rfl, hA', hB, hcc⟩ := id hv
  simp only at hA' hB hcc
  unfold tabV at hv ⊢
  simp only at hv ⊢
  have kT := ((Bk.new (w) #[.int .i64 r, .slice A ls.length c, .slice B es.length d] 26).alloc (.cells #[.int .i64 0, .slice none 0 0, .slice none 0 0] 26))
  have kR := (Bk.new (w.alloc (.cells #[.int .i64 r, .slice A ls.length c, .slice B es.length d] 26)) #[.int .i64 0, .slice none 0 0, .slice none 0 0] 26)
  rw [World.size_alloc] at kR
  have hB1 := balloc (balloc (Below.refl _ w) (.cells #[.int .i64 r, .slice A ls.length c, .slice B es.length d] 26)) (.cells #[.int .i64 0, .slice none 0 0, .slice none 0 0] 26)
  generalize hw_w1 : (w.alloc (.cells #[.int .i64 r, .slice A ls.length c, .slice B es.length d] 26)).alloc (.cells #[.int .i64 0, .slice none 0 0, .slice none 0 0] 26) = w1 at *
  have hd : (askE r ls es page != 0) = true := by simpa using hA
  obtain ⟨cT, fT, lT⟩ := kT.facts
  have hst := arr_store0 arr_z73 arr_z1
  go_enter Tryz.func65, Tryz.ntmps65
  go_wp2_with fail
  refine (open_bad r ls es _ page _ (hv.to hB1) hs (hL.below hB1) hA).mono ?_
  rintro e w2 ⟨rfl, hb2⟩
  go_upto_region 2 with fail
  have kA := (Bk.new (w2) Tryz.zeroCells108 108)
  have hB3 := balloc (Below.refl _ w2) (.cells Tryz.zeroCells108 108)
  generalize hw_w3 : (w2).alloc (.cells Tryz.zeroCells108 108) = w3 at *
  replace kR := (kR.to hb2).to hB3
  replace hB1 := bnext (bnext hB1 hb2) hB3
  clear hst cT fT lT hb2 hw_w1 hw_w3
  obtain ⟨cR, fR, lR⟩ := kR.facts
  go_wp2_with fail
  have kF := kR.put3 (.int .i64 0) (.slice none 0 0) (.slice none 0 0)
  have hBF := below_put3 hB1 (g := w.heap.size + 1) (by omega) (.int .i64 0) (.slice none 0 0) (.slice none 0 0)
  exact bodyPost_ret (kF.res3 (P := Tryz.prog) rfl _ rfl (by kernel_rfl) (by kernel_rfl)) rfl ⟨_, rfl, TbV.zero _, TLoc.zero _ _, hBF⟩

set_option maxHeartbeats 1000000 in
theorem TClear_bad2 (r : Int) (ls : List Int) (es : List Nat) (v : Value) (p : Nat) (w : World) (hv : TbV w v (r, ls, es)) (hs : wsmall es) (hL : LayOK w) (hE : tabE r ls es = 0) (hp : p < 64) (hk0 : unpK (es.getD p 0) = 0) :
    Calls Tryz.prog 65 #[v, .int .i64 p] w fun e w' => TbRes3L w w' tb0 0 6 e := by
  obtain ⟨h1, h2, hR, hLs, hDu, hSt, hUn, hMi⟩ := tab_zero hE
  obtain ⟨A, c, B, d, rfl, hA, hB, hcc⟩ := id hv
  simp only at hA hB hcc
  unfold tabV at hv ⊢
  simp only at hv ⊢
  rw [h1, h2] at hv ⊢
  rw [h1] at hA hcc
  rw [h2] at hB
  have kT := ((Bk.new (w) #[.int .i64 r, .slice A 8 c, .slice B 64 d] 26).alloc (.cells #[.int .i64 0, .slice none 0 0, .slice none 0 0] 26))
  have kR := (Bk.new (w.alloc (.cells #[.int .i64 r, .slice A 8 c, .slice B 64 d] 26)) #[.int .i64 0, .slice none 0 0, .slice none 0 0] 26)
  rw [World.size_alloc] at kR
  have hB1 := balloc (balloc (Below.refl _ w) (.cells #[.int .i64 r, .slice A 8 c, .slice B 64 d] 26)) (.cells #[.int .i64 0, .slice none 0 0, .slice none 0 0] 26)
  generalize hw_w1 : (w.alloc (.cells #[.int .i64 r, .slice A 8 c, .slice B 64 d] 26)).alloc (.cells #[.int .i64 0, .slice none 0 0, .slice none 0 0] 26) = w1 at *
  have hpI : (p : Int) < 64 := by omega
  obtain ⟨cT, fT, lT⟩ := kT.facts
  have hln := arrL_len r ls es h1 h2
  have hst := arr_store0 (arr_73 r ls es h1 h2) (arrL_one r ls es)
  go_enter Tryz.func65, Tryz.ntmps65
  go_wp2_with fail
  refine (open_ok r ls es _ p _ (hv.to hB1) hs (hL.below hB1) hE hp).mono ?_
  rintro e w2 ⟨rfl, hb2⟩
  have hw23 : w.heap.size + 1 < w2.heap.size := Nat.lt_of_lt_of_le kR.lt hb2.size
  have hq8 : p / 8 < 8 := by omega
  go_upto_region 2 with fail
  have kA := (Bk.new (w2) (arrL r ls es).toArray 108)
  have hB3 := balloc (Below.refl _ w2) (.cells (arrL r ls es).toArray 108)
  generalize hw_w3 : (w2).alloc (.cells (arrL r ls es).toArray 108) = w3 at *
  replace kR := (kR.to hb2).to hB3
  replace hB1 := bnext (bnext hB1 hb2) hB3
  clear hst cT fT lT hb2 hB3 hw_w1 hw_w3
  have lA := kA.lt
  have ce := arr_ent h1 h2 kA hp
  have hxs := getD_small hs p (by omega)
  have HK := Lib.hid (kind_any (es.getD p 0) w3 hxs (hUn p hp) (hL.below hB1))
  obtain ⟨x, hx⟩ : ∃ x, x = es.getD p 0 := ⟨_, rfl⟩
  rw [← hx] at ce HK hk0
  clear hx
  obtain ⟨kx, hkx⟩ : ∃ kx, kx = unpK x := ⟨_, rfl⟩
  rw [← hkx] at HK hk0
  clear hkx
  have d1 : (kx == 0) = true := by simp [hk0]
  clear hk0
  go_wp2_with (go_at_call 91; refine HK.out.mono ?_; rintro e w4 ⟨rfl, hb4⟩; replace kR := kR.to hb4; replace hB1 := bnext hB1 hb4; obtain ⟨cR, fR, lR⟩ := kR.facts)
  have kF := kR.put3 (.int .i64 0) (.slice none 0 0) (.slice none 0 0)
  have hBF := below_put3 hB1 (g := w.heap.size + 1) (by omega) (.int .i64 0) (.slice none 0 0) (.slice none 0 0)
  exact bodyPost_ret (kF.res3 (P := Tryz.prog) rfl _ rfl (by kernel_rfl) (by kernel_rfl)) rfl ⟨_, rfl, TbV.zero _, TLoc.zero _ _, hBF⟩

set_option maxHeartbeats 1000000 in
theorem TClear_ok (r : Int) (ls : List Int) (es : List Nat) (v : Value) (p : Nat) (w : World) (hv : TbV w v (r, ls, es)) (hs : wsmall es) (hL : LayOK w) (hE : tabE r ls es = 0) (hp : p < 64) (hk0 : unpK (es.getD p 0) ≠ 0) :
    Calls Tryz.prog 65 #[v, .int .i64 p] w fun e w' => TbRes3L w w' (r, relL ls (es.set p 0) (p / 8), es.set p 0) (relF ls (es.set p 0) (p / 8)) 0 e := by
  obtain ⟨h1, h2, hR, hLs, hDu, hSt, hUn, hMi⟩ := tab_zero hE
  obtain ⟨A, c, B, d, rfl, hA, hB, hcc⟩ := id hv
  simp only at hA hB hcc
  unfold tabV at hv ⊢
  simp only at hv ⊢
  rw [h1, h2] at hv ⊢
  rw [h1] at hA hcc
  rw [h2] at hB
  have kT := ((Bk.new (w) #[.int .i64 r, .slice A 8 c, .slice B 64 d] 26).alloc (.cells #[.int .i64 0, .slice none 0 0, .slice none 0 0] 26))
  have kR := (Bk.new (w.alloc (.cells #[.int .i64 r, .slice A 8 c, .slice B 64 d] 26)) #[.int .i64 0, .slice none 0 0, .slice none 0 0] 26)
  rw [World.size_alloc] at kR
  have hB1 := balloc (balloc (Below.refl _ w) (.cells #[.int .i64 r, .slice A 8 c, .slice B 64 d] 26)) (.cells #[.int .i64 0, .slice none 0 0, .slice none 0 0] 26)
  generalize hw_w1 : (w.alloc (.cells #[.int .i64 r, .slice A 8 c, .slice B 64 d] 26)).alloc (.cells #[.int .i64 0, .slice none 0 0, .slice none 0 0] 26) = w1 at *
  have hpI : (p : Int) < 64 := by omega
  obtain ⟨cT, fT, lT⟩ := kT.facts
  have hln := arrL_len r ls es h1 h2
  have hst := arr_store0 (arr_73 r ls es h1 h2) (arrL_one r ls es)
  go_enter Tryz.func65, Tryz.ntmps65
  go_wp2_with fail
  refine (open_ok r ls es _ p _ (hv.to hB1) hs (hL.below hB1) hE hp).mono ?_
  rintro e w2 ⟨rfl, hb2⟩
  have hw23 : w.heap.size + 1 < w2.heap.size := Nat.lt_of_lt_of_le kR.lt hb2.size
  have hq8 : p / 8 < 8 := by omega
  go_upto_region 2 with fail
  have kA := (Bk.new (w2) (arrL r ls es).toArray 108)
  have hB3 := balloc (Below.refl _ w2) (.cells (arrL r ls es).toArray 108)
  generalize hw_w3 : (w2).alloc (.cells (arrL r ls es).toArray 108) = w3 at *
  replace kR := (kR.to hb2).to hB3
  replace hB1 := bnext (bnext hB1 hb2) hB3
  clear hst cT fT lT hb2 hB3 hw_w1 hw_w3
  have lA := kA.lt
  have ce := arr_ent h1 h2 kA hp
  have hxs := getD_small hs p (by omega)
  have HK := Lib.hid (kind_any (es.getD p 0) w3 hxs (hUn p hp) (hL.below hB1))
  obtain ⟨x, hx⟩ : ∃ x, x = es.getD p 0 := ⟨_, rfl⟩
  rw [← hx] at ce HK hk0
  clear hx
  obtain ⟨kx, hkx⟩ : ∃ kx, kx = unpK x := ⟨_, rfl⟩
  rw [← hkx] at HK hk0
  clear hkx
  have d1 : (kx == 0) = false := by simpa using hk0
  clear hk0
  go_wp2_with (go_at_call 91; refine HK.out.mono ?_; rintro e w4 ⟨rfl, hb4⟩; replace kR := kR.to hb4; replace kA := kA.to hb4; replace hB1 := bnext hB1 hb4; clear ce lA; have ce := arr_ent h1 h2 kA hp; have fe := kA.frozen (9 + p); have lA := kA.lt)
  have kA2 := kA.put (9 + p) (.int .u64 ((0 : Nat) : Int))
  rw [arr_setent h1 p 0] at kA2
  have kR2 := kR.far (p := ⟨w2.heap.size, 9 + p, none⟩) (by show w.heap.size + 1 ≠ w2.heap.size; omega) (.int .u64 ((0 : Nat) : Int))
  have hB2 := hB1.setCell (p := ⟨w2.heap.size, 9 + p, none⟩) (by show w.heap.size ≤ w2.heap.size; omega) (.int .u64 ((0 : Nat) : Int))
  clear ce fe lA
  generalize hw5 : w4.setCell ⟨w2.heap.size, 9 + p, none⟩ (.int .u64 ((0 : Nat) : Int)) = w5 at *
  have hcz : ((0 : Nat) : Int) = 0 := rfl
  rw [hcz] at hw5
  have h2' : (es.set p 0).length = 64 := by simpa using h2
  have hs' : wsmall (es.set p 0) := wsmall_set hs p (by omega)
  have hU' := unp_set0 h2 hUn p
  obtain ⟨es', hes⟩ : ∃ es', es' = es.set p 0 := ⟨_, rfl⟩
  obtain ⟨q, hqq⟩ : ∃ q, q = p / 8 := ⟨_, rfl⟩
  rw [← hes] at kA2 h2' hs' hU'
  rw [← hqq] at hq8
  have HEQ := Lib.hid (And.intro hes hqq)
  clear hes
  have hR2 := release_arr r ls es' w2.heap.size q w5 h1 h2' hq8 hs' hU' kA2 (hL.below hB2)
  rw [hqq] at hR2
  clear hqq
  refine hR2.mono ?_
  rintro e w6 ⟨he6, kA6, hbs⟩
  replace kR2 : Bk w6 (w.heap.size + 1) _ _ := kR2.below hbs.1 (by omega)
  replace hB2 : Below w.heap.size w w6 := hB2.trans (hbs.1.mono (by omega))
  have HF : Hid (relF ls es' (p / 8) = relF ls (es.set p 0) (p / 8) ∧ relL ls es' (p / 8) = relL ls (es.set p 0) (p / 8)) := Lib.hid (by rw [HEQ.out.1]; exact ⟨rfl, rfl⟩)
  have h1' : (relL ls es' (p / 8)).length = 8 := by unfold relL; split <;> simp [h1]
  obtain ⟨fr, hfr⟩ : ∃ fr, fr = relF ls es' (p / 8) := ⟨_, rfl⟩
  obtain ⟨ls', hls'⟩ : ∃ ls', ls' = relL ls es' (p / 8) := ⟨_, rfl⟩
  rw [← hfr] at HF
  rw [← hls'] at HF kA6 h1'
  rw [← hfr] at he6
  subst he6
  clear hfr hls'
  dsimp only
  go_upto_region 8 with fail
  apply wp_region_lit
  refine wpList_load_arr h1' h2' kA6 rfl _ rfl rfl ?_
  go_frame
  go_wp2_with fail
  refine (table_any r ls' es' _ h1' h2').mono ?_
  rintro e w7 ⟨rfl, kB, hb6⟩
  have hw5 : w.heap.size + 1 < w6.heap.size := kR2.lt
  replace kR2 := kR2.to hb6
  replace hB2 := hB2.trans (hb6.mono hB2.size)
  obtain ⟨cR, fR, lR⟩ := kR2.facts
  go_wp2_with fail
  have kF := kR2.put3 (.int .i64 r) (.slice (some ⟨w6.heap.size, 1, none⟩) 8 8) (.slice (some ⟨w6.heap.size, 9, none⟩) 64 64)
  have kB2 := kB.far3 (g := w.heap.size + 1) (by omega) (.int .i64 r) (.slice (some ⟨w6.heap.size, 1, none⟩) 8 8) (.slice (some ⟨w6.heap.size, 9, none⟩) 64 64)
  have hBF := below_put3 hB2 (g := w.heap.size + 1) (by omega) (.int .i64 r) (.slice (some ⟨w6.heap.size, 1, none⟩) 8 8) (.slice (some ⟨w6.heap.size, 9, none⟩) 64 64)
  exact bodyPost_ret (kF.res3 (P := Tryz.prog) rfl _ rfl (by kernel_rfl) (by kernel_rfl)) rfl ⟨_, by rw [← HF.out.1]; rfl, by rw [← HF.out.2, ← HEQ.out.1]; exact arr_tbv h1' h2' kB2, TLoc.arr (by omega) _, hBF⟩

theorem TClearL_any (r : Int) (ls : List Int) (es : List Nat) (v : Value) (page : Int) (w : World) (hv : TbV w v (r, ls, es)) (hs : wsmall es) (hL : LayOK w) :
    Calls Tryz.prog 65 #[v, .int .i64 page] w fun e w' => TbRes3L w w' (clearR r ls es page).1 (clearR r ls es page).2.1 (clearR r ls es page).2.2 e := by
  by_cases h : askE r ls es page = 0
  · obtain ⟨h1, p, rfl, hp⟩ := ask_zero h
    by_cases hk : unpK (es.getD p 0) = 0
    · have hE : clearE r ls es p = 6 := by unfold clearE; rw [orE_r _ h, Int.toNat_natCast, if_pos hk]
      have hR : clearR r ls es p = (tb0, 0, 6) := by unfold clearR; rw [if_pos (by omega), hE]
      rw [hR]
      exact TClear_bad2 r ls es v p w hv hs hL h1 hp hk
    · have hE : clearE r ls es p = 0 := by unfold clearE; rw [orE_r _ h, Int.toNat_natCast, if_neg hk]
      have hR : clearR r ls es p = ((r, relL ls (es.set p 0) (p / 8), es.set p 0), relF ls (es.set p 0) (p / 8), 0) := by
        unfold clearR relL relF
        rw [if_neg (by omega), Int.toNat_natCast]
        rcases emptyB (es.set p 0) (p / 8) with _ | _ <;> rfl
      rw [hR]
      exact TClear_ok r ls es v p w hv hs hL h1 hp hk
  · have hE : clearE r ls es page = askE r ls es page := by unfold clearE; rw [orE_l _ h]
    have hR : clearR r ls es page = (tb0, 0, askE r ls es page) := by unfold clearR; rw [if_pos (by rw [hE]; exact h), hE]
    rw [hR]
    exact TClear_bad1 r ls es v page w hv hs hL h
theorem TClear_any (r : Int) (ls : List Int) (es : List Nat) (v : Value) (page : Int) (w : World) (hv : TbV w v (r, ls, es)) (hs : wsmall es) (hL : LayOK w) :
    Calls Tryz.prog 65 #[v, .int .i64 page] w fun e w' => TbRes3 w w' (clearR r ls es page).1 (clearR r ls es page).2.1 (clearR r ls es page).2.2 e :=
  (TClearL_any r ls es v page w hv hs hL).mono fun _ _ ⟨v, h1, h2, _, h4⟩ => ⟨v, h1, h2, h4⟩
end Go.Proofs.YtpkgfkhaiifooaaGreatDoor
/- Page tables: Trim. -/
namespace Go.Proofs.YtpkgfkhaiifooaaGreatDoor
open Go Go.Proofs Go.RowKit
set_option linter.unusedSimpArgs false
set_option linter.unusedVariables false
set_option maxRecDepth 100000

/-- A table, numbers and an error that a call returned. -/
def TrRes (w w' : World) (t : Tb) (zs : List Int) (er : Int) (e : Ending) : Prop := ∃ v u, e = .returned (.tuple #[v, u, .int .i64 er]) ∧ TbV w' v t ∧ IsV w' u zs ∧ Below w.heap.size w w'
/-- Where the numbers of a row lie. -/
def ILoc (lo : Nat) (v : Value) : Prop := ∀ A n c, v = .slice A n c → ∀ b off, 0 < n → A = some ⟨b, off, none⟩ → lo ≤ b
theorem ILoc.nil (lo : Nat) : ILoc lo (.slice none 0 0) := by
  intro A n c e b off hn hA
  injection e with e1 e2 e3
  omega
theorem ILoc.own {w : World} {B : Nat} {e : TypeId} {sz n : Nat} {v : Value} {xs : List Value} (h : w.ownsRow B e sz v n xs) {lo : Nat} (hlo : lo ≤ B) : ILoc lo v := by
  intro A m c ev b off hm hA
  subst ev hA
  rcases h.2 with ⟨h0, _⟩ | ⟨g2, cap2, cur, h1, _⟩
  · injection h0 with _ h0 _; omega
  · injection h1 with h1 h2 h3
    injection h1 with h1
    injection h1 with h1 h4 h5
    subst h1 h2 h3 h4
    have := (h.lt b rfl).1
    omega
def TrResL (w w' : World) (t : Tb) (zs : List Int) (er : Int) (e : Ending) : Prop := ∃ v u, e = .returned (.tuple #[v, u, .int .i64 er]) ∧ TbV w' v t ∧ IsV w' u zs ∧ TLoc w.heap.size v ∧ ILoc w.heap.size u ∧ Below w.heap.size w w'
theorem own_put3 {w : World} {B g : Nat} {e : TypeId} {sz n : Nat} {v : Value} {xs : List Value} (h : w.ownsRow B e sz v n xs) (hg : g < B) (x y z : Value) : (((w.setCell ⟨g, 0, none⟩ x).setCell ⟨g, 1, none⟩ y).setCell ⟨g, 2, none⟩ z).ownsRow B e sz v n xs :=
  own_far (p := ⟨g, 2, none⟩) (own_far (p := ⟨g, 1, none⟩) (own_far (p := ⟨g, 0, none⟩) h hg x) hg y) hg z
theorem trimL_len (ls : List Int) (es : List Nat) (n : Nat) : (trimL ls es n).length = ls.length := by
  induction n with
  | zero => rfl
  | succ n ih => unfold trimL; split <;> simp [ih]
theorem trimL_get (ls : List Int) (es : List Nat) (n j : Nat) (h : n ≤ j) : (trimL ls es n).getD j 0 = ls.getD j 0 := by
  induction n with
  | zero => rfl
  | succ n ih =>
    have := ih (by omega)
    unfold trimL
    split
    · rw [← this, List.getD_eq_getElem?_getD, List.getD_eq_getElem?_getD, List.getElem?_set, if_neg (by omega)]
    · exact this
theorem set_same (l : List Int) (q : Nat) (x : Int) (h : l.getD q 0 = x) (hq : q < l.length) : l.set q x = l := by
  rw [List.getD_eq_getElem?_getD, List.getElem?_eq_getElem hq] at h
  subst h
  exact List.set_getElem_self hq
theorem trim_relL (ls : List Int) (es : List Nat) (k : Nat) (hk : k < ls.length) : relL (trimL ls es k) es k = trimL ls es (k + 1) := by
  have hg := trimL_get ls es k k (Nat.le_refl _)
  have e1 : trimL ls es (k + 1) = if goneB ls es k then (trimL ls es k).set k (-1) else trimL ls es k := rfl
  rw [e1]
  unfold relL goneB
  rcases emptyB es k with _ | _
  · simp
  · by_cases h : ls.getD k 0 = -1
    · have h2 := set_same (trimL ls es k) k (-1) (by rw [hg, h]) (by rw [trimL_len]; exact hk)
      rw [h2]
      simp
    · have : decide (ls.getD k 0 ≠ -1) = true := by simpa using h
      rw [this]
      rfl
theorem trim_relF (ls : List Int) (es : List Nat) (k : Nat) : relF (trimL ls es k) es k = if goneB ls es k then ls.getD k 0 else -1 := by
  unfold relF goneB
  rw [trimL_get ls es k k (Nat.le_refl _)]
  rcases emptyB es k with _ | _
  · simp
  · by_cases h : ls.getD k 0 = -1
    · rw [h]; simp
    · have : decide (ls.getD k 0 ≠ -1) = true := by simpa using h
      rw [this]
      rfl
theorem trimG_succ (ls : List Int) (es : List Nat) (k : Nat) : trimG ls es (k + 1) = trimG ls es k ++ (if goneB ls es k then [ls.getD k 0] else []) := by
  unfold trimG
  rw [List.range_succ, List.filter_append, List.map_append]
  congr 1
  rcases h : goneB ls es k with _ | _
  · rw [List.filter_cons_of_neg (by simp [h])]; rfl
  · rw [List.filter_cons_of_pos h]; rfl
theorem trimG_len (ls : List Int) (es : List Nat) (k : Nat) : (trimG ls es k).length ≤ k := by
  unfold trimG
  have := List.length_filter_le (goneB ls es) (List.range k)
  simp at this ⊢
  omega
theorem own_beside {w w' : World} {b B : Nat} {e : TypeId} {sz n : Nat} {v : Value} {xs : List Value} (h : w.ownsRow B e sz v n xs) (hb : Beside b w w') (hB : b < B) : w'.ownsRow B e sz v n xs := by
  refine ⟨h.1, ?_⟩
  rcases h.2 with hn | ⟨g, cap, cur, hv, hbg, hg, rest⟩
  · exact .inl hn
  · exact .inr ⟨g, cap, cur, hv, hbg, (hb.2 g (Array.getElem?_eq_some_iff.1 hg).1 (by omega)).trans hg, rest⟩

end Go.Proofs.YtpkgfkhaiifooaaGreatDoor
/- Page tables: New. -/
namespace Go.Proofs.YtpkgfkhaiifooaaGreatDoor
open Go Go.Proofs Go.RowKit
set_option linter.unusedSimpArgs false
set_option linter.unusedVariables false
set_option maxRecDepth 100000

theorem arr_built1 (r : Int) : Tryz.prog.built 108 [(0, .int .i64 r)] = some (arrL r (List.replicate 8 0) (List.replicate 64 0)).toArray := by
  rw [arr_fill, arr_zero]
  have e1 := fill_one ((#[(0, 1), (1, 8), (9, 64)] : Array (Nat × Nat))[·]?) 0 0 (.int .i64 r) [.int .i64 r] [] [.int .i64 0] (iw (List.replicate 8 0) ++ uw (List.replicate 64 0)) [] rfl rfl rfl rfl
  simp only [List.append_nil, List.nil_append, List.append_assoc, List.singleton_append, List.cons_append] at e1
  simp only [arrL]
  rw [e1]
  simp [Instr.fill]
/-- The leaves of a new table after k rounds. -/
def newL (k : Nat) : List Int := (List.range 8).map fun j => if j < k then -1 else 0
theorem newL_succ : ∀ k, k < 8 → (newL k).set k (-1) = newL (k + 1) := by decide
theorem newL_len (k : Nat) : (newL k).length = 8 := by simp [newL]
theorem newL_8 : newL 8 = List.replicate 8 (-1) := by decide
theorem newL_0 : newL 0 = List.replicate 8 0 := by decide

set_option maxHeartbeats 1000000 in
theorem TNew_bad (root : Int) (w : World) (h : badF root ≠ 0) :
    Calls Tryz.prog 35 #[.int .i64 root] w fun e w' => TbRes w w' tb0 2 e := by
  have hr : root < -1 ∨ 256 ≤ root := by unfold badF at h; split at h <;> simp_all
  have d1 : (root != -1) = true := by simp; omega
  have kR := Bk.new w #[.int .i64 0, .slice none 0 0, .slice none 0 0] 26
  have hB1 := balloc (Below.refl _ w) (.cells #[.int .i64 0, .slice none 0 0, .slice none 0 0] 26)
  generalize hw1 : w.alloc (.cells #[.int .i64 0, .slice none 0 0, .slice none 0 0] 26) = w1 at *
  obtain ⟨cR, fR, lR⟩ := kR.facts
  go_enter Tryz.func35, Tryz.ntmps35
  go_wp2_with (go_at_call 70; refine (isFrame_f root _ (by omega)).mono ?_; rintro e w' ⟨rfl, rfl⟩)
  have kF := kR.put3 (.int .i64 0) (.slice none 0 0) (.slice none 0 0)
  have hBF := below_put3 hB1 (g := w.heap.size) (Nat.le_refl _) (.int .i64 0) (.slice none 0 0) (.slice none 0 0)
  exact bodyPost_ret (kF.res2 (P := Tryz.prog) rfl _ rfl (by kernel_rfl) (by kernel_rfl)) rfl ⟨_, rfl, TbV.zero _, TLoc.zero _ _, hBF⟩

set_option maxHeartbeats 1000000 in
theorem TNew_ok (r : Int) (w : World) (h : badF r = 0) :
    Calls Tryz.prog 35 #[.int .i64 r] w fun e w' => TbRes w w' (r, List.replicate 8 (-1), List.replicate 64 0) 0 e := by
  have hr := badF_zero h
  have hr2 : (r != -1) = false ∨ (r != -1) = true ∧ 0 ≤ r ∧ r < 256 := by
    by_cases h : r = -1
    · left; simp [h]
    · right; exact ⟨by simpa using h, by omega, by omega⟩
  clear h hr
  have kR := Bk.new w #[.int .i64 0, .slice none 0 0, .slice none 0 0] 26
  have hB1 := balloc (Below.refl _ w) (.cells #[.int .i64 0, .slice none 0 0, .slice none 0 0] 26)
  generalize hw1 : w.alloc (.cells #[.int .i64 0, .slice none 0 0, .slice none 0 0] 26) = w1 at *
  have h64 : (List.replicate 64 (0 : Nat)).length = 64 := by decide
  have h80 : (List.replicate 8 (0 : Int)).length = 8 := by decide
  have hsw : w.heap.size < w1.heap.size := kR.lt
  have he : Tryz.zeroCells108.toList.set 0 (.int .i64 r) = arrL r (List.replicate 8 0) (List.replicate 64 0) := by rw [arr_zero]; rfl
  have hst : ∀ W : World, (storeCells ⟨W.heap.size, 0, none⟩ (Tryz.zeroCells108.toList.set 0 (.int .i64 r)) 0).run Tryz.prog (W.alloc (.cells Tryz.zeroCells108 108)) = .ok () (W.alloc (.cells (arrL r (newL 0) (List.replicate 64 0)).toArray 108)) := fun W => by
    rw [he, newL_0]
    exact arr_store0 (arr_73 r _ _ h80 h64) (arrL_one r _ _) W
  have hz : Tryz.zeroCells108.size = 73 := arr_z73
  have H8 := Lib.hid newL_8
  obtain ⟨z64, hz64⟩ : ∃ z, z = List.replicate 64 (0 : Nat) := ⟨_, rfl⟩
  obtain ⟨l8, hl8⟩ : ∃ z, z = List.replicate 8 (-1 : Int) := ⟨_, rfl⟩
  rw [← hz64] at hst h64 ⊢
  rw [← hl8] at H8 ⊢
  clear hz64 he hl8
  rcases hr2 with hr2 | ⟨hr2, hr3, hr4⟩
  all_goals
    go_enter Tryz.func35, Tryz.ntmps35
    go_upto_region 4 with (go_at_call 70; refine (isFrame_t r _ hr3 hr4).mono ?_; rintro e w' ⟨rfl, rfl⟩)
    have kA := Bk.new w1 (arrL r (newL 0) z64).toArray 108
    have hB2 := balloc hB1 (.cells (arrL r (newL 0) z64).toArray 108)
    replace kR := kR.alloc (.cells (arrL r (newL 0) z64).toArray 108)
    generalize hw2 : w1.alloc (.cells (arrL r (newL 0) z64).toArray 108) = w2 at *
    clear hst hw1
    go_wp2_with fail
    go_loopw [16] (fun i wr => ∃ k : Nat, k ≤ 8 ∧ i = .int .i64 k ∧ Bk wr w1.heap.size (arrL r (newL k) z64).toArray 108 ∧ Below w1.heap.size w2 wr) (fun i _ => 8 - (intOf i).toNat)
    case atStart => exact ⟨0, by omega, rfl, kA, Below.refl _ _⟩
    case round =>
      obtain ⟨k, hk, rfl, kAk, hBx⟩ := hrel
      by_cases hlt : k < 8
      · have cl := arr_leaf (newL_len k) kAk hlt
        have fl := kAk.frozen (1 + k)
        have lA := kAk.lt
        have hqI : (k : Int) < 8 := by omega
        have kA2 := kAk.put (1 + k) (.int .i64 (-1))
        rw [arr_setleaf (newL_len k) k hlt (-1), newL_succ k hlt] at kA2
        have hB3 := hBx.setCell (p := ⟨w1.heap.size, 1 + k, none⟩) (Nat.le_refl _) (.int .i64 (-1))
        go_wp2_with fail
        go_roundw
        case rel => exact ⟨k + 1, by omega, by go_num, kA2, hB3⟩
        case measure => simp [intOf]; omega
      · obtain rfl : k = 8 := by omega
        have kR2 : Bk wr w.heap.size _ _ := kR.below hBx hsw
        have hB3 : Below w.heap.size w wr := hB2.trans (hBx.mono (by omega))
        have h1' : l8.length = 8 := by rw [← H8.out]; exact newL_len 8
        rw [H8.out] at kAk
        go_upto_region 9 with fail
        apply wp_region_lit
        refine wpList_load_arr h1' h64 kAk rfl _ rfl rfl ?_
        go_frame
        go_wp2_with fail
        refine (table_any r l8 z64 _ h1' h64).mono ?_
        rintro e w6 ⟨rfl, kB, hb6⟩
        have hw5 : w.heap.size < wr.heap.size := kR2.lt
        replace kR2 := kR2.to hb6
        replace hB3 := hB3.trans (hb6.mono hB3.size)
        obtain ⟨cR, fR, lR⟩ := kR2.facts
        go_wp2_with fail
        have kF := kR2.put3 (.int .i64 r) (.slice (some ⟨wr.heap.size, 1, none⟩) 8 8) (.slice (some ⟨wr.heap.size, 9, none⟩) 64 64)
        have kB2 := kB.far3 (g := w.heap.size) (by omega) (.int .i64 r) (.slice (some ⟨wr.heap.size, 1, none⟩) 8 8) (.slice (some ⟨wr.heap.size, 9, none⟩) 64 64)
        have hBF := below_put3 hB3 (g := w.heap.size) (Nat.le_refl _) (.int .i64 r) (.slice (some ⟨wr.heap.size, 1, none⟩) 8 8) (.slice (some ⟨wr.heap.size, 9, none⟩) 64 64)
        exact bodyPost_ret (kF.res2 (P := Tryz.prog) rfl _ rfl (by kernel_rfl) (by kernel_rfl)) rfl ⟨_, rfl, arr_tbv h1' h64 kB2, TLoc.arr (by omega) _, hBF⟩
theorem TNew_any (root : Int) (w : World) :
    Calls Tryz.prog 35 #[.int .i64 root] w fun e w' => TbRes w w' (newR root).1 (newR root).2 e := by
  unfold newR
  by_cases h : badF root = 0
  · rw [if_neg (by simp [h])]
    exact TNew_ok root w h
  · rw [if_pos h]
    exact TNew_bad root w h
end Go.Proofs.YtpkgfkhaiifooaaGreatDoor
