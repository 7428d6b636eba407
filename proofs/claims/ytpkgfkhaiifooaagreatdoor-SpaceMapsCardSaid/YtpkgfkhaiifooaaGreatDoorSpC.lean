/- What space.Check returns. -/
import Derived.Test.YtpkgfkhaiifooaaGreatDoorSpE
import Derived.Test.YtpkgfkhaiifooaaGreatDoorGB
import Derived.Test.YtpkgfkhaiifooaaGreatDoorGT
namespace Go.Proofs.YtpkgfkhaiifooaaGreatDoor
open Go Go.Proofs Go.RowKit Go.Shelf
set_option linter.unusedSimpArgs false
set_option linter.unusedVariables false
set_option maxRecDepth 100000
attribute [local go_sem] Oper.semAt_some

theorem keepsFrom_below {B : Nat} {W W' : World} (h : Below W.heap.size W W') : KeepsFrom B W W' := ⟨h.size, fun k o _ hk _ => (h.block k (Array.getElem?_eq_some_iff.1 hk).1).trans hk⟩
/-- Cells of an entry. -/
def entA (e : Int × Int × Bool × Bool × Bool) : Array Value := #[.int .i64 e.1, .int .i64 e.2.1, .bool e.2.2.1, .bool e.2.2.2.1, .bool e.2.2.2.2]
/-- What the iterator reads lies. -/
structure ItW (W : World) (Br : Nat) (B : Option Addr) : Prop where
  l : 0 < W.heap.size
  r : Br < W.heap.size
  b : ∀ b o p, B = some ⟨b, o, p⟩ → b < W.heap.size
theorem ItW.keep {W W' : World} {Br : Nat} {B : Option Addr} (h : ItW W Br B) (hb : Below W.heap.size W W') : KeepE Br B W W' :=
  ⟨KeepB.of_below hb h.l, KeepB.of_below hb h.r, fun b o p e => KeepB.of_below hb (h.b b o p e)⟩
theorem ItW.to {W W' : World} {Br : Nat} {B : Option Addr} (h : ItW W Br B) (hb : Below W.heap.size W W') : ItW W' Br B :=
  ⟨Nat.lt_of_lt_of_le h.l hb.size, Nat.lt_of_lt_of_le h.r hb.size, fun b o p e => Nat.lt_of_lt_of_le (h.b b o p e) hb.size⟩
theorem ItW.le {W W' : World} {Br : Nat} {B : Option Addr} (h : ItW W Br B) (hb : W.heap.size ≤ W'.heap.size) : ItW W' Br B :=
  ⟨Nat.lt_of_lt_of_le h.l hb, Nat.lt_of_lt_of_le h.r hb, fun b o p e => Nat.lt_of_lt_of_le (h.b b o p e) hb⟩
theorem bk_own {β : Type} {B q : Nat} {cs : Array Value} {t : TypeId} : OwnFrom B (fun (_ : β) W => Bk W q cs t) := fun _ W W' row hs hg hr =>
  (hg.block q hs.lt (fun e => by obtain ⟨_, o, ho, hc⟩ := hr q e.symm; have : W.heap[q]? = _ := hs; rw [this] at ho; cases ho; cases hc)).trans hs

theorem entries_in (F : Fence) (n : Nat) (h : F.fn 45) (hro : F.round = none) (r : Int) (A B : Option Addr) (a c b d : Nat) (w : World) :
    CallsIn F n Tryz.prog 45 #[.agg #[.int .i64 r, .slice A a c, .slice B b d]] w fun e w' => e = .returned (.func (.func 82) #[] #[.pointer (some ⟨w.heap.size, 0, none⟩)]) ∧ w' = w.alloc (.cells #[.int .i64 r, .slice A a c, .slice B b d] 26) := by
  refine callsIn_of_wp Tryz.func45 rfl h ?_ hro
  simp only [Tryz.ntmps45, List.size_toArray, List.length_cons, List.length_nil, Nat.reduceAdd, Nat.reduceSub, Array.replicate_succ, Array.replicate_zero, List.push_toArray, List.append_toArray, List.nil_append, List.cons_append]
  gi_wp2
  go_ret
  exact ⟨rfl, rfl⟩

theorem entries_stops (Br : Nat) (B : Option Addr) (d : Nat) (r : Int) (ls : List Int) (es : List Nat) (hT : tabE r ls es = 0) (hs : wsmall es) (w : World) (hL : LayOK w) (hR : Rd w 1 B 64 (uw es)) (hc2 : w.cell? ⟨Br, 2, none⟩ = some (.slice B 64 d)) :
    SeqStopsK Fence.wide 3 Tryz.prog 82 #[.pointer (some ⟨Br, 0, none⟩)] (fun x : Pg => #[Value.int .i64 x.1, entV (entP es x.1.toNat)]) (KeepE Br B) (fun ys => ys = pgs 0 64) (fun _ => True) 64 w := fun l J Jx W hW hJ hJx hY hJ0 => by
  obtain ⟨_, h64, _⟩ := tab_zero hT
  refine entries1_in Fence.wide 3 trivial trivial (fun x u hx hu => callsIn_wide.2 (Unpack_any x u hx hu)) rfl (by omega) l Br B d es h64 (fun p hp => ?_) (fun p hp => unp_in hT p hp) J Jx hY W ?_ (hL.below hW) (hR.below hW (Nat.le_refl _)) ?_ hJ0 (fun pre X Y hX hg => hJ pre X Y none hX hg (fun r e => by cases e))
  · rw [List.getD_eq_getElem?_getD, List.getElem?_eq_getElem (show p < es.length by omega)]
    exact hs _ (List.getElem_mem _)
  · exact (hW.cell (World.block_lt_of_cell? _ _ hc2)).trans hc2
  · exact Nat.lt_of_lt_of_le (World.block_lt_of_cell? _ _ hc2) hW.size

/-- The address space's box. -/
theorem spc_split {rs : List (Int × Int)} {T : Tb} : ((rs, T) : Sp).1 = rs ∧ ((rs, T) : Sp).2 = T := ⟨rfl, rfl⟩

/-- Between two pages of Check. -/
def SpcI (w : World) (rs : List (Int × Int)) (es : List Nat) (pre : List Pg) (W : World) : Prop := (∀ x ∈ pre, outE rs es x.1.toNat = 0) ∧ Below w.heap.size w W
def SpcX (w : World) (B2 : Nat) (rs : List (Int × Int)) (es : List Nat) (c : Code) (pre : List Pg) (W : World) : Prop := c = .ret ∧ (∃ x ∈ pre, outE rs es x.1.toNat ≠ 0) ∧ Bk W B2 #[.int .i64 9] 32 ∧ Below w.heap.size w W
theorem out_all {rs : List (Int × Int)} {es : List Nat} (h : ∀ x ∈ pgs 0 64, outE rs es x.1.toNat = 0) : fst0 (outE rs es) 64 = 0 :=
  (fst0_zero _ _).2 fun p hp => by
    have := h (pg (0 + (p : Int))) (List.mem_map.2 ⟨p, List.mem_range.2 hp, rfl⟩)
    rwa [pg_val _ (by omega) (by omega), Int.zero_add, Int.toNat_natCast] at this
theorem outE_9 (rs : List (Int × Int)) (es : List Nat) (p : Nat) : outE rs es p = 0 ∨ outE rs es p = 9 := by unfold outE; split <;> simp
theorem fst0_9 (f : Nat → Int) (hf : ∀ p, f p = 0 ∨ f p = 9) : ∀ (n p : Nat), p < n → f p ≠ 0 → fst0 f n = 9
  | 0, p, h, _ => by omega
  | n + 1, p, h, hp => by
    by_cases h0 : fst0 f n = 0
    · rcases Nat.lt_or_ge p n with hl | hl
      · exact absurd ((fst0_zero _ _).1 h0 p hl) hp
      · have : p = n := by omega
        subst this
        rw [fst0_hit f p (p + 1) h0 hp (by omega)]
        rcases hf p with h | h
        · exact absurd h hp
        · exact h
    · have hx : ∃ q, q < n ∧ f q ≠ 0 := Classical.byContradiction fun hc => h0 ((fst0_zero _ _).2 fun q hq => Classical.byContradiction fun hq' => hc ⟨q, hq, hq'⟩)
      obtain ⟨q, hq, hq'⟩ := hx
      have ih := fst0_9 f hf n q hq hq'
      show (if fst0 f n ≠ 0 then fst0 f n else f n) = 9
      rw [if_pos h0]
      exact ih
theorem out_some {rs : List (Int × Int)} {es : List Nat} {pre : List Pg} (h : ∃ x ∈ pre, outE rs es x.1.toNat ≠ 0) : fst0 (outE rs es) 64 = 9 := by
  obtain ⟨x, _, hx⟩ := h
  exact fst0_9 _ (outE_9 rs es) 64 x.1.toNat (by have := x.2; omega) hx

set_option maxHeartbeats 4000000 in
theorem spCheck_any (rs : List (Int × Int)) (r : Int) (ls : List Int) (es : List Nat) (v : Value) (w : World) (hv : SpV w v (rs, r, ls, es)) (hn : rs.length ≤ 1000000) (hs : wsmall es) (hL : LayOK w) :
    Calls Tryz.prog 20 #[v] w fun e w' => e = .returned (.int .i64 (spcE (rs, r, ls, es))) ∧ Below w.heap.size w w' := by
  obtain ⟨A, c, L, cl, B, d, rfl, hA, hLs, hB, hcc⟩ := hv
  simp only at hA hLs hB hcc
  unfold spcV
  simp only
  have kS := (Bk.new w #[.slice A rs.length c, .int .i64 r, .slice L ls.length cl, .slice B es.length d] 28).alloc (.cells #[.int .i64 0] 32)
  have kR := Bk.new (w.alloc (.cells #[.slice A rs.length c, .int .i64 r, .slice L ls.length cl, .slice B es.length d] 28)) #[.int .i64 0] 32
  rw [World.size_alloc] at kR
  have hB1 := balloc (balloc (Below.refl _ w) (.cells #[.slice A rs.length c, .int .i64 r, .slice L ls.length cl, .slice B es.length d] 28)) (.cells #[.int .i64 0] 32)
  generalize hw1 : (w.alloc (.cells #[.slice A rs.length c, .int .i64 r, .slice L ls.length cl, .slice B es.length d] 28)).alloc (.cells #[.int .i64 0] 32) = w1 at *
  by_cases hE1 : (regE rs).1 = 0
  case neg =>
    have HV := Lib.hid (spc_bad1 (s := (rs, r, ls, es)) hE1)
    have hd : ((regE rs).1 != 0) = true := by simpa using hE1
    obtain ⟨cS, fS, lS⟩ := kS.facts
    go_enter Tryz.func20, Tryz.ntmps20
    go_wp2_with fail
    refine (rCheckP_any A rs.length c rs _ (hA.below hB1 (Nat.le_refl _)) hn).mono ?_
    rintro e w2 ⟨rfl, hb2⟩
    replace kR := kR.to hb2
    clear cS fS lS
    obtain ⟨cR, fR, lR⟩ := kR.facts
    go_wp2_with fail
    have kF := kR.put 0 (.int .i64 (regE rs).1)
    obtain ⟨cF, fF, lF⟩ := kF.facts
    exact bodyPost_ret (v := .int .i64 (regE rs).1) (by simp [results, Tryz.results20, go_sem, cF]) rfl ⟨by rw [HV.out], (bnext hB1 hb2).setCell (p := ⟨w.heap.size + 1, 0, none⟩) (Nat.le_succ _) _⟩
  by_cases hE2 : tabE r ls es = 0
  case neg =>
    have HV := Lib.hid (spc_bad2 (s := (rs, r, ls, es)) hE1 hE2)
    have hd : (tabE r ls es != 0) = true := by simpa using hE2
    obtain ⟨cS, fS, lS⟩ := kS.facts
    go_enter Tryz.func20, Tryz.ntmps20
    go_wp2_with fail
    refine (rCheckP_any A rs.length c rs _ (hA.below hB1 (Nat.le_refl _)) hn).mono ?_
    rw [hE1]
    rintro e w2 ⟨rfl, hb2⟩
    replace kR := kR.to hb2
    replace kS := kS.to hb2
    clear cS fS lS hE1
    obtain ⟨cS, fS, lS⟩ := kS.facts
    go_wp2_with fail
    refine (TCheck_any r ls es _ _ (tbv_of (hLs.below (bnext hB1 hb2) (Nat.le_refl _)) (hB.below (bnext hB1 hb2) (Nat.le_refl _)) hcc) hs (hL.below (bnext hB1 hb2))).mono ?_
    rintro e w3 ⟨rfl, hb3⟩
    replace kR := kR.to hb3
    clear cS fS lS hE2
    obtain ⟨cR, fR, lR⟩ := kR.facts
    go_wp2_with fail
    have kF := kR.put 0 (.int .i64 (tabE r ls es))
    obtain ⟨cF, fF, lF⟩ := kF.facts
    exact bodyPost_ret (v := .int .i64 (tabE r ls es)) (by simp [results, Tryz.results20, go_sem, cF]) rfl ⟨by rw [HV.out], (bnext (bnext hB1 hb2) hb3).setCell (p := ⟨w.heap.size + 1, 0, none⟩) (Nat.le_succ _) _⟩
  have HV := Lib.hid (spc_rest (s := (rs, r, ls, es)) hE1 hE2)
  obtain ⟨h8, h64, _⟩ := tab_zero hE2
  have hg := regE_zero rs hE1
  rw [h8] at kS hLs hcc hw1 ⊢
  rw [h64] at kS hB hw1 ⊢
  obtain ⟨cS, fS, lS⟩ := kS.facts
  have hF : ∀ f, Fence.wide.fn f := fun _ => trivial
  refine (callsIn_wide (n := 4)).1 ?_
  refine callsIn_of_wp_marks Tryz.func20 rfl trivial ?_ rfl
  simp only [Tryz.ntmps20, List.size_toArray, List.length_cons, List.length_nil, Nat.reduceAdd, Nat.reduceSub, Array.replicate_succ, Array.replicate_zero, List.push_toArray, List.append_toArray, List.nil_append, List.cons_append]
  gi_wp2_with fail
  refine (callsIn_wide.2 (rCheckP_any A rs.length c rs _ (hA.below hB1 (Nat.le_refl _)) hn)).mono ?_
  rw [hE1]
  rintro e w2 ⟨rfl, hb2⟩
  replace kR := kR.to hb2
  replace kS := kS.to hb2
  replace hB1 := bnext hB1 hb2
  clear cS fS lS hb2 hw1
  obtain ⟨cS, fS, lS⟩ := kS.facts
  gi_wp2_with fail
  refine (callsIn_wide.2 (TCheck_any r ls es _ _ (by have := tbv_of (r := r) (ls := ls) (es := es) (cl := cl) (d := d) (by rw [h8]; exact hLs.below hB1 (Nat.le_refl _)) (by rw [h64]; exact hB.below hB1 (Nat.le_refl _)) (by rw [h8]; exact hcc); rwa [h8, h64] at this) hs (hL.below hB1))).mono ?_
  rw [hE2]
  rintro e w3 ⟨rfl, hb3⟩
  replace kR := kR.to hb3
  replace kS := kS.to hb3
  replace hB1 := bnext hB1 hb3
  clear cS fS lS hb3
  obtain ⟨cS, fS, lS⟩ := kS.facts
  gi_wp2_with fail
  refine (entries_in Fence.wide 3 trivial rfl r L B 8 cl 64 d _).mono ?_
  rintro e w' ⟨rfl, rfl⟩
  have hL3 := hL.below hB1
  have hbA : ∀ b o p, B = some ⟨b, o, p⟩ → b < w3.heap.size := by
    obtain ⟨b', off', rfl, hb', _⟩ := hB.2 (by omega)
    intro b o p e
    injection e with e
    injection e with e
    subst e
    exact Nat.lt_of_lt_of_le hb' hB1.size
  have kBr := Bk.new w3 #[.int .i64 r, .slice L 8 cl, .slice B 64 d] 26
  have hB4 := balloc (Below.refl _ w3) (.cells #[.int .i64 r, .slice L 8 cl, .slice B 64 d] 26)
  have hws : w.heap.size + 1 < w3.heap.size := kR.lt
  have HIt : ItW (w3.alloc (.cells #[.int .i64 r, .slice L 8 cl, .slice B 64 d] 26)) w3.heap.size B := ⟨by rw [World.size_alloc]; exact Nat.lt_succ_of_lt hL3.lt, by simp, fun b o p e => by rw [World.size_alloc]; exact Nat.lt_succ_of_lt (hbA b o p e)⟩
  generalize hw4 : w3.alloc (.cells #[.int .i64 r, .slice L 8 cl, .slice B 64 d] 26) = w4 at *
  have hs4 : w4.heap.size = w3.heap.size + 1 := by rw [← hw4]; simp
  have hL4 := hL3.below hB4
  replace hB1 := bnext hB1 hB4
  replace kS := kS.to hB4
  replace kR := kR.to hB4
  have hs5 : w3.heap.size < w4.heap.size := by omega
  clear cS fS lS hw4 hs4
  gi_wp2_with fail
  refine wpIn_rangeFunc_ownH rfl (by omega) (gf := 82) (lb := #[.pointer (some ⟨w3.heap.size, 0, none⟩)]) rfl trivial (enters_of Tryz.func82 (by kernel_rfl) rfl)
    (entries_stops w3.heap.size B d r ls es hE2 hs _ hL4 (hB.below hB1 (Nat.le_refl _)) (kBr.cell 2)) keepE_t (keepE_b HIt.l HIt.r HIt.b) (Below.refl _ _) (fun _ => rfl)
    (SpcI w4 rs es) (SpcX w (w.heap.size + 1) rs es) ?hI ?hIx ?h0
    (fun x a' W => ∃ q, Bk W q (entA (entP es x.1.toNat)) 57 ∧ w4.heap.size ≤ q ∧ a' = { tmps := #[.agg #[.slice A rs.length c, .int .i64 r, .slice L 8 cl, .slice B 64 d], .pointer (some ⟨w.heap.size, 0, none⟩), .pointer (some ⟨w.heap.size + 1, 0, none⟩), .int .i64 0, .int .i64 (regE rs).2, .int .i64 0, .int .i64 x.1, .pointer (some ⟨q, 0, none⟩), undef, undef, .tuple #[.int .i64 0, .int .i64 (regE rs).2], .pointer (some ⟨w.heap.size, 0, none⟩), .slice A rs.length c, .tuple #[.int .i64 0, .int .i64 (regE rs).2], .int .i64 0, .int .i64 (regE rs).2, .int .i64 0, .bool false, undef, .pointer (some ⟨w.heap.size, 1, none⟩), .agg #[.int .i64 r, .slice L 8 cl, .slice B 64 d], .int .i64 0, .int .i64 0, .bool false, undef, .pointer (some ⟨w.heap.size, 1, none⟩), .agg #[.int .i64 r, .slice L 8 cl, .slice B 64 d], .func (.func 82) #[] #[.pointer (some ⟨w3.heap.size, 0, none⟩)], .int .i64 x.1, entV (entP es x.1.toNat), undef, undef, undef, undef, undef, undef, undef, undef, undef, undef, undef, undef], defers := [] }) ?hAx ?assign ?body ?done ?stop
  case hI => exact OwnFrom.and (fun _ _ _ _ hs _ _ => hs) (ownFrom_below (Nat.le_refl _) (Nat.le_refl _))
  case hIx => exact fun _ => OwnFrom.and (fun _ _ _ _ hs _ _ => hs) (OwnFrom.and (fun _ _ _ _ hs _ _ => hs) (OwnFrom.and bk_own (ownFrom_below (Nat.le_refl _) (by omega))))
  case h0 => exact ⟨by simp, Below.refl _ _⟩
  case hAx => exact fun x a' _ W W' row ⟨q, h1, h2⟩ hg hr => ⟨q, bk_own () W W' row h1 hg hr, h2⟩
  case assign =>
    intro l pre x W K hi hK
    unfold entV at hK ⊢
    gi_wp2
    exact hK _ _ (keepsFrom_below (balloc (Below.refl _ _) _)) ((HIt.to hi.2).keep (balloc (Below.refl _ _) _)) ⟨hi.1, balloc hi.2 _⟩ ⟨_, Bk.new _ _ _, hi.2.size, rfl⟩
  case body =>
    rintro l pre ⟨x, hx0, hx1⟩ a' W hl _ hi ⟨q, kq, hq, rfl⟩ hlen
    obtain ⟨p, rfl⟩ : ∃ p : Nat, x = p := ⟨x.toNat, by omega⟩
    simp only [Int.toNat_natCast] at kq ⊢
    have HI := HIt.to hi.2
    have kSW := kS.to hi.2
    have kRW := kR.to hi.2
    have hAW := (hA.below hB1 (Nat.le_refl _)).below hi.2 (by have := hB1.size; omega)
    have hp64 : p < 64 := by omega
    obtain ⟨cS, fS, lS⟩ := kSW.facts
    obtain ⟨cQ, fQ, lQ⟩ := kq.facts
    have HH := Lib.hid (fun W h => Has_rg A rs.length c rs p W h hn)
    rw [hasRg_ok rs p hg hp64] at HH
    have hkd : (entP es p).1 = unpK (es.getD p 0) := rfl
    have hI1 : ∀ W' : World, Below W.heap.size W W' → outE rs es p = 0 → KeepsFrom w4.heap.size W W' ∧ KeepE w3.heap.size B W W' ∧ SpcI w4 rs es (pre ++ [⟨(p : Int), hx0, hx1⟩]) W' := fun W' hb h0 => ⟨keepsFrom_below hb, HI.keep hb, fun y hy => by
      rcases List.mem_append.1 hy with hy | hy
      · exact hi.1 y hy
      · simp at hy; subst hy; exact h0, bnext hi.2 hb⟩
    have HI1 := Lib.hid hI1
    clear hI1
    unfold entV
    unfold entA at cQ
    generalize entP es p = ee at *
    obtain ⟨k1, n1, a1, b1, c1⟩ := ee
    simp only at cQ hkd ⊢
    by_cases hk0 : k1 = 0
    · have h0 : outE rs es p = 0 := outE_no (.inl (by rw [← hkd]; exact hk0))
      clear hkd
      subst hk0
      gi_wp2
      exact HI1.out _ (Below.refl _ _) h0
    · have hd : (k1 == 0) = false := by simpa using hk0
      rcases hp : hasP rs p with _ | _
      · have hne : outE rs es p ≠ 0 := by rw [outE_yes (by rw [← hkd]; exact hk0) hp]; decide
        rw [hp] at HH
        have hBw := hB1.trans (hi.2.mono (by have := hB1.size; omega))
        clear hkd hp HI hk0
        gi_wp2_with (gi_at_call 46; refine (CallsIn.inRound l (callsIn_wide.2 (HH.out _ hAW))).mono ?_; rintro e w5 ⟨rfl, hb5⟩; obtain ⟨cR, fR, lR⟩ := (kRW.to hb5).facts)
        exact ⟨(keepsFrom_below hb5).trans ((KeepsOthers.setCell _ _ _).from _), rfl, ⟨_, List.mem_append_right _ (List.mem_singleton_self _), hne⟩, (kRW.to hb5).put 0 (.int .i64 9), (bnext hBw hb5).setCell (p := ⟨w.heap.size + 1, 0, none⟩) (Nat.le_succ _) _⟩
      · have h0 : outE rs es p = 0 := outE_no (.inr hp)
        rw [hp] at HH
        clear hkd hp HI hk0
        gi_wp2_with (gi_at_call 46; refine (CallsIn.inRound l (callsIn_wide.2 (HH.out _ hAW))).mono ?_; rintro e w5 ⟨rfl, hb5⟩)
        exact HI1.out _ hb5 h0
  case done =>
    rintro D ys W hD rfl ⟨hall, hbW⟩ hK
    have kRW := kR.to hbW
    obtain ⟨cR, fR, lR⟩ := kRW.facts
    gi_wp2
    have hK2 : (W.setCell ⟨w.heap.size + 1, 0, none⟩ (.int .i64 0)).heap[D]? = some (.deferred (some [])) := (Below.heap_setCell W ⟨w.heap.size + 1, 0, none⟩ _ D (by show D ≠ w.heap.size + 1; omega)).trans hK
    refine ⟨by simp, .inl ⟨_, _, rfl, run_takeDeferred hK2, ?_⟩⟩
    have kF := (bk_own (B := w.heap.size + 2) () _ _ (some D) (kRW.put 0 (.int .i64 0)) (grownBy_putObj' _ D (.deferred none)) (fun q e => by cases e; exact ⟨by omega, _, hK2, rfl⟩))
    obtain ⟨cF, fF, lF⟩ := kF.facts
    have hBw := hB1.trans (hbW.mono (by have := hB1.size; omega))
    exact ⟨.int .i64 0, by simp [results, Tryz.results20, go_sem, cF], by rw [HV.out, out_all hall], (hBw.setCell (p := ⟨w.heap.size + 1, 0, none⟩) (Nat.le_succ _) _).trans (belowK_b (w := w) (Nat.le_refl _) _ D _ _ (by omega) hK2 rfl rfl)⟩
  case stop =>
    rintro D c pre W hD _ ⟨rfl, hex, kR9, hbW⟩ hK
    gi_wp2
    refine ⟨by simp, .inl ⟨_, _, rfl, run_takeDeferred hK, ?_⟩⟩
    have kF := (bk_own (B := w.heap.size + 2) () _ _ (some D) kR9 (grownBy_putObj' _ D (.deferred none)) (fun q e => by cases e; exact ⟨by omega, _, hK, rfl⟩))
    obtain ⟨cF, fF, lF⟩ := kF.facts
    exact ⟨.int .i64 9, by simp [results, Tryz.results20, go_sem, cF], by rw [HV.out, out_some hex], hbW.trans (belowK_b (w := w) (Nat.le_refl _) _ D _ _ (by omega) hK rfl rfl)⟩
end Go.Proofs.YtpkgfkhaiifooaaGreatDoor
