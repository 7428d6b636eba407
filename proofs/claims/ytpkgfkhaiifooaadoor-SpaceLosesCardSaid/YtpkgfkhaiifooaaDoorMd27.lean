/- Address spaces made of numbers. -/
import Derived.Test.YtpkgfkhaiifooaaDoorSpA
import Derived.Test.YtpkgfkhaiifooaaDoorRgR
import Derived.Test.YtpkgfkhaiifooaaDoorMadeP
import Derived.Test.YtpkgfkhaiifooaaDoorGA
import Derived.Deep.RegionHeld3
import Derived.Deep.RegionLaw
import Derived.Deep.DeepCutAuto
namespace Go.Proofs.YtpkgfkhaiifooaaDoor
open Go Go.Proofs Go.RowKit
set_option linter.unusedSimpArgs false
set_option linter.unusedVariables false
set_option maxRecDepth 100000

theorem put_okR {r : Int} {ls : List Int} {es : List Nat} (h : tabE r ls es = 0) (p : Nat) (hp : p < 64) (k n : Int) (a b c : Bool) (hq : (putR r ls es p k n a b c).2 = 0) :
    ∃ x : Nat, putR r ls es p k n a b c = ((r, ls, es.set p x), 0) ∧ packR k n a b c = ((x : Int), 0) ∧ tabE r ls (es.set p x) = 0 ∧ x < 65536 ∧ unpE x = 0 ∧ ¬ (k ≠ 0 ∧ ls.getD (p / 8) 0 = -1) := by
  have hE : putE r ls es p k n a b c = 0 := by
    apply Classical.byContradiction
    intro hc
    unfold putR at hq
    rw [if_pos hc] at hq
    exact hc hq
  have hE2 := hE
  unfold putE at hE2
  obtain ⟨_, h2⟩ := orE_zero hE2
  obtain ⟨h3, h4⟩ := orE_zero h2
  rw [Int.toNat_natCast] at h4
  have hl : ¬ (k ≠ 0 ∧ ls.getD (p / 8) 0 = -1) := by
    rintro ⟨g1, g2⟩
    rw [if_pos ⟨g2, g1⟩] at h4
    omega
  obtain ⟨x, hx, hx2⟩ := packR_nat k n a b c h3
  have hpk : packR k n a b c = ((x : Int), 0) := Prod.ext hx h3
  obtain ⟨u1, u2, _, _⟩ := unpE_pack k n a b c x hpk
  refine ⟨x, by unfold putR; rw [if_neg (by omega), hx, Int.toNat_natCast, Int.toNat_natCast], hpk, put_valid h p x hp u1 (fun hh => hl ⟨by omega, hh.2⟩), hx2, u1, hl⟩
/-- A space stays valid where an entry is set. -/
theorem set_okR {rs : List (Int × Int)} {r : Int} {ls : List Int} {es : List Nat} (h : spcE (rs, r, ls, es) = 0) (hs : wsmall es) (p : Nat) (hp : p < 64) (k n : Int) (a b c : Bool) (hq : (setR (rs, r, ls, es) p k n a b c).2 = 0) :
    ∃ x : Nat, setR (rs, r, ls, es) p k n a b c = ((rs, r, ls, es.set p x), 0) ∧ packR k n a b c = ((x : Int), 0) ∧ spcE (rs, r, ls, es.set p x) = 0 ∧ wsmall (es.set p x) ∧ hasP rs p = true := by
  obtain ⟨h1, h2, h3⟩ := spc_zero h
  simp only at h1 h2 h3
  have hE : setE (rs, r, ls, es) p k n a b c = 0 := by
    apply Classical.byContradiction
    intro hc
    unfold setR at hq
    rw [if_pos hc] at hq
    exact hc hq
  have hE2 := hE
  unfold setE at hE2
  obtain ⟨_, h4⟩ := orE_zero hE2
  rw [if_neg (by omega), Int.toNat_natCast] at h4
  have hm : hasP rs p = true := by
    cases hb : hasP rs p
    · rw [if_pos (by simpa using hb)] at h4; omega
    · rfl
  simp only at h4
  rw [if_neg (by rw [hm]; decide)] at h4
  obtain ⟨x, e1, e2, e3, e4, e5, _⟩ := put_okR h2 p hp k n a b c h4
  have h64 := (tab_zero h2).2.1
  refine ⟨x, by unfold setR; rw [if_neg (by omega)]; simp only [e1], e2, spc_ok h1 e3 (fun j hj => ?_), wsmall_set hs p (by omega), hm⟩
  have hold := h3 j hj
  simp only
  unfold outE at hold ⊢
  rw [getD_set es p x j (by omega)]
  by_cases hjp : j = p
  · subst hjp
    rw [if_neg]
    rintro ⟨_, hh⟩
    rw [hm] at hh
    cases hh
  · rw [if_neg hjp]
    exact hold
def mL27 (k : Nat) : List Int := (List.range 8).map fun j => if j < k ∧ j % 4 ≠ 3 then 100 + (j : Int) else -1
theorem m27_all : ((List.range 8).all fun k => k % 4 == 3 || decide (leafR 200 (mL27 k) xe0 (k : Int) (100 + (k : Int)) = (((200, mL27 (k + 1), xe0), 0) : Tb × Int))) = true := by decide +kernel
theorem m27_set (k : Nat) (hk : k < 8) (h3 : k % 4 ≠ 3) : leafR 200 (mL27 k) xe0 k (100 + k) = ((200, mL27 (k + 1), xe0), 0) := by
  have := List.all_eq_true.1 m27_all k (List.mem_range.2 hk)
  simp only [Bool.or_eq_true, beq_iff_eq, decide_eq_true_eq] at this
  exact this.resolve_left h3
theorem m27_skip : ∀ k : Nat, k < 8 → k % 4 = 3 → mL27 (k + 1) = mL27 k := by decide +kernel
theorem m27_new : newR 200 = ((200, mL27 0, xe0), 0) := by decide +kernel
theorem m27_tab : tabE 200 (mL27 8) xe0 = 0 := by decide +kernel
theorem m27_len (k : Nat) : (mL27 k).length = 8 := by simp [mL27]
theorem m27_spc (f : Nat → Bool) : spcE (regs f, 200, mL27 8, xe0) = 0 := spc_ok (regs_v f) m27_tab (fun p hp => outE_no (.inl (by
  have : ∀ p : Nat, p < 64 → unpK (xe0.getD p 0) = 0 := by decide +kernel
  exact this p hp)))
theorem RgV.len {rs : List (Int × Int)} (h : RgV rs) : rs.length ≤ 64 := by
  have hk : ∀ j : Nat, j < rs.length → (j : Int) ≤ (rs.getD j (0, 0)).2 := by
    intro j
    induction j with
    | zero => intro hj; have := rgE_one (h 0 hj); omega
    | succ j ih =>
      intro hj
      have h1 := ih (by omega)
      have h2 := rgE_one (h (j + 1) hj)
      have h3 := h2.2.2.2 (by omega)
      rw [Nat.add_sub_cancel] at h3
      omega
  rcases Nat.eq_zero_or_pos rs.length with h0 | h0
  · omega
  · have h1 := hk (rs.length - 1) (by omega)
    have h2 := rgE_one (h (rs.length - 1) (by omega))
    omega

set_option maxHeartbeats 1000000 in
theorem entry27_any (n : Int) (w : World) :
    Calls Tryd.prog 40 #[.int .i64 n] w fun e w' => ∃ (k m : Int) (a b c : Bool), e = .returned (.agg #[.int .i64 k, .int .i64 m, .bool a, .bool b, .bool c]) ∧ Below w.heap.size w w' := by
  have kR := Bk.new w #[.int .i64 0, .int .i64 0, .bool false, .bool false, .bool false] 38
  have hB1 := balloc (Below.refl _ w) (.cells #[.int .i64 0, .int .i64 0, .bool false, .bool false, .bool false] 38)
  generalize hw1 : w.alloc (.cells #[.int .i64 0, .int .i64 0, .bool false, .bool false, .bool false] 38) = w1 at *
  obtain ⟨q, hq⟩ : ∃ q : Nat, n % 1048576 = q := ⟨(n % 1048576).toNat, by have := Int.emod_nonneg n (show (1048576 : Int) ≠ 0 by omega); omega⟩
  have hq2 : q < 1048576 := by have := Int.emod_lt_of_pos n (show (0 : Int) < 1048576 by omega); omega
  have HM := Lib.hid (fun W => Mod_any n 1048576 W (by omega) (by omega))
  rw [hq] at HM
  clear hq
  obtain ⟨cR, fR, lR⟩ := kR.facts
  go_enter Tryd.func40, Tryd.ntmps40
  go_wp2_with (first | (go_at_call 10; refine (HM.out _).mono ?_; rintro e w2 ⟨rfl, rfl⟩))
  · have kF := kR.put5 (.int .i64 2) (.int .i64 ((q : Int) / 3 % 24)) (.bool false) (.bool false) (.bool false)
    have hBF := below_put5 hB1 (b := w.heap.size) (Nat.le_refl _) (.int .i64 2) (.int .i64 ((q : Int) / 3 % 24)) (.bool false) (.bool false) (.bool false)
    exact bodyPost_ret (kF.res1 (P := Tryd.prog) rfl _ rfl (by kernel_rfl) (by kernel_rfl)) rfl ⟨2, _, _, _, _, rfl, hBF⟩
  · have kF := kR.put5 (.int .i64 1) (.int .i64 ((q : Int) / 3 % 8)) (.bool ((q : Int) / 24 % 2 == 0)) (.bool ((q : Int) / 24 % 2 == 1)) (.bool false)
    have hBF := below_put5 hB1 (b := w.heap.size) (Nat.le_refl _) (.int .i64 1) (.int .i64 ((q : Int) / 3 % 8)) (.bool ((q : Int) / 24 % 2 == 0)) (.bool ((q : Int) / 24 % 2 == 1)) (.bool false)
    exact bodyPost_ret (kF.res1 (P := Tryd.prog) rfl _ rfl (by kernel_rfl) (by kernel_rfl)) rfl ⟨1, _, _, _, _, rfl, hBF⟩
end Go.Proofs.YtpkgfkhaiifooaaDoor
