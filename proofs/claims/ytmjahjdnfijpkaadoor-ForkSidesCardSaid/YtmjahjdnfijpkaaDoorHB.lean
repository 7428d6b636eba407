/- Several texts in one. -/
import Derived.Test.YtmjahjdnfijpkaaDoorGE
import Derived.Test.YtmjahjdnfijpkaaDoorHI
import Derived.Test.YtmjahjdnfijpkaaDoorMadeP
/- Entries of a page table: words with other flags and other numbers. -/
namespace Go.Proofs.YtmjahjdnfijpkaaDoor
open Go Go.Proofs Go.RowKit
set_option linter.unusedSimpArgs false
set_option linter.unusedVariables false

def chgR (r : (Int × Int × Bool × Bool × Bool) × Int) (want : Int → Prop) [DecidablePred want] (f : Int → Int → Bool → Bool → Bool → Int × Int) : Int × Int :=
  if r.2 ≠ 0 then (0, r.2) else if ¬ want r.1.1 then (0, 9) else f r.1.1 r.1.2.1 r.1.2.2.1 r.1.2.2.2.1 r.1.2.2.2.2
def writeR (x : Nat) (on : Bool) : Int × Int := chgR (unpR x) (· = 1) fun _ n _ _ c => (((packN 1 n.toNat on (!on) c : Nat) : Int), 0)
def referR (x : Nat) (on : Bool) : Int × Int := chgR (unpR x) (· = 1) fun _ n a b _ => (((packN 1 n.toNat a b on : Nat) : Int), 0)
def moveR (x : Nat) (m : Int) : Int × Int := chgR (unpR x) (· ≠ 0) fun k _ a b c => if m < 0 ∨ 255 < m then (0, 2) else (((packN k.toNat m.toNat a b c : Nat) : Int), 0)
theorem unpR_ok (x : Nat) (h : (unpR x).2 = 0) : chk (unpR x).1.1 (unpR x).1.2.1 (unpR x).1.2.2.1 (unpR x).1.2.2.2.1 (unpR x).1.2.2.2.2 = 0 := by
  unfold unpR at h ⊢
  by_cases h0 : unpE x = 0
  · rw [if_pos h0]
    simp only
    unfold unpE at h0
    by_cases h1 : x % 4 = 3
    · rw [if_pos h1] at h0; simp at h0
    · rw [if_neg h1] at h0
      by_cases h2 : x / 32 % 8 ≠ 0 ∨ x / 65536 ≠ 0
      · rw [if_pos h2] at h0; simp at h0
      · rw [if_neg h2] at h0; exact h0
  · rw [if_neg h0] at h
    exact absurd h h0

set_option maxHeartbeats 2000000 in
theorem Write_any (x : Nat) (m : Bool) (w : World) (hx : x < 18446744073709551616) (hL : LayOK w) :
    Calls Tryd.prog 70 #[.int .u64 x, .bool m] w fun e w' => e = .returned (.tuple #[.int .u64 (writeR x m).1, .int .i64 (writeR x m).2]) ∧ Below w.heap.size w w' := by
  have hok := unpR_ok x
  rcases hu : unpR x with ⟨⟨k, n, a, b, c⟩, er⟩
  rw [hu] at hok
  simp only at hok
  have HU := Lib.hid hu
  by_cases he : er = 0
  · subst he
    have hck := hok rfl
    obtain ⟨hk3, hn0, hn1⟩ := chk_ok k n a b c hck
    obtain ⟨k, rfl⟩ : ∃ q : Nat, k = q := ⟨k.toNat, by omega⟩
    obtain ⟨n, rfl⟩ : ∃ q : Nat, n = q := ⟨n.toNat, by omega⟩
    clear hu hok
    by_cases hk1 : k = 1
    · subst hk1
      have hv : writeR x m = (((packN 1 n m (!m) c : Nat) : Int), 0) := by unfold writeR chgR; rw [HU.out]; simp
      rw [hv]
      clear hv hck hk3
      go_enter Tryd.func70, Tryd.ntmps70
      go_wp2_with fail
      refine (Unpack_any x _ hx hL).mono ?_
      rintro e w1 ⟨he, hb1⟩
      rw [HU.out] at he
      subst he
      go_wp2_with (go_at_call 90; refine (pack_any 1 n m (!m) c _ (by omega) (by omega) ((hL.below hb1).alloc _)).mono ?_; rintro e w2 ⟨rfl, hb2⟩)
      go_ret2
      exact ⟨rfl, by (repeat' (first | exact Below.refl _ _ | assumption | refine balloc ?_ _ | refine below_drawn ?_ _ | refine below_drew ?_ | refine bnext ?_ hb24 | refine bnext ?_ hb23 | refine bnext ?_ hb22 | refine bnext ?_ hb21 | refine bnext ?_ hb20 | refine bnext ?_ hb19 | refine bnext ?_ hb18 | refine bnext ?_ hb17 | refine bnext ?_ hb16 | refine bnext ?_ hb15 | refine bnext ?_ hb14 | refine bnext ?_ hb13 | refine bnext ?_ hb12 | refine bnext ?_ hb11 | refine bnext ?_ hb10 | refine bnext ?_ hb9 | refine bnext ?_ hb8 | refine bnext ?_ hb7 | refine bnext ?_ hb6 | refine bnext ?_ hb5 | refine bnext ?_ hb4 | refine bnext ?_ hb3 | refine bnext ?_ hb2 | refine bnext ?_ hb1))⟩
    · have hv : writeR x m = (0, 9) := by unfold writeR chgR; rw [HU.out]; simp [hk1]; omega
      rw [hv]
      have hkb : ((k : Int) != 1) = true := by simp; omega
      clear hv hck hk3 hk1
      go_enter Tryd.func70, Tryd.ntmps70
      go_wp2_with fail
      refine (Unpack_any x _ hx hL).mono ?_
      rintro e w1 ⟨he, hb1⟩
      rw [HU.out] at he
      subst he
      go_wp2_with fail
      go_ret2
      exact ⟨rfl, by (repeat' (first | exact Below.refl _ _ | assumption | refine balloc ?_ _ | refine below_drawn ?_ _ | refine below_drew ?_ | refine bnext ?_ hb24 | refine bnext ?_ hb23 | refine bnext ?_ hb22 | refine bnext ?_ hb21 | refine bnext ?_ hb20 | refine bnext ?_ hb19 | refine bnext ?_ hb18 | refine bnext ?_ hb17 | refine bnext ?_ hb16 | refine bnext ?_ hb15 | refine bnext ?_ hb14 | refine bnext ?_ hb13 | refine bnext ?_ hb12 | refine bnext ?_ hb11 | refine bnext ?_ hb10 | refine bnext ?_ hb9 | refine bnext ?_ hb8 | refine bnext ?_ hb7 | refine bnext ?_ hb6 | refine bnext ?_ hb5 | refine bnext ?_ hb4 | refine bnext ?_ hb3 | refine bnext ?_ hb2 | refine bnext ?_ hb1))⟩
  · have hv : writeR x m = (0, er) := by unfold writeR chgR; rw [HU.out]; simp [he]
    rw [hv]
    have heb : (er != 0) = true := by simpa using he
    clear hv hu hok he
    go_enter Tryd.func70, Tryd.ntmps70
    go_wp2_with fail
    refine (Unpack_any x _ hx hL).mono ?_
    rintro e w1 ⟨he, hb1⟩
    rw [HU.out] at he
    subst he
    go_wp2_with fail
    go_ret2
    exact ⟨rfl, by (repeat' (first | exact Below.refl _ _ | assumption | refine balloc ?_ _ | refine below_drawn ?_ _ | refine below_drew ?_ | refine bnext ?_ hb24 | refine bnext ?_ hb23 | refine bnext ?_ hb22 | refine bnext ?_ hb21 | refine bnext ?_ hb20 | refine bnext ?_ hb19 | refine bnext ?_ hb18 | refine bnext ?_ hb17 | refine bnext ?_ hb16 | refine bnext ?_ hb15 | refine bnext ?_ hb14 | refine bnext ?_ hb13 | refine bnext ?_ hb12 | refine bnext ?_ hb11 | refine bnext ?_ hb10 | refine bnext ?_ hb9 | refine bnext ?_ hb8 | refine bnext ?_ hb7 | refine bnext ?_ hb6 | refine bnext ?_ hb5 | refine bnext ?_ hb4 | refine bnext ?_ hb3 | refine bnext ?_ hb2 | refine bnext ?_ hb1))⟩

set_option maxHeartbeats 2000000 in
theorem Refer_any (x : Nat) (m : Bool) (w : World) (hx : x < 18446744073709551616) (hL : LayOK w) :
    Calls Tryd.prog 77 #[.int .u64 x, .bool m] w fun e w' => e = .returned (.tuple #[.int .u64 (referR x m).1, .int .i64 (referR x m).2]) ∧ Below w.heap.size w w' := by
  have hok := unpR_ok x
  rcases hu : unpR x with ⟨⟨k, n, a, b, c⟩, er⟩
  rw [hu] at hok
  simp only at hok
  have HU := Lib.hid hu
  by_cases he : er = 0
  · subst he
    have hck := hok rfl
    obtain ⟨hk3, hn0, hn1⟩ := chk_ok k n a b c hck
    obtain ⟨k, rfl⟩ : ∃ q : Nat, k = q := ⟨k.toNat, by omega⟩
    obtain ⟨n, rfl⟩ : ∃ q : Nat, n = q := ⟨n.toNat, by omega⟩
    clear hu hok
    by_cases hk1 : k = 1
    · subst hk1
      have hv : referR x m = (((packN 1 n a b m : Nat) : Int), 0) := by unfold referR chgR; rw [HU.out]; simp
      rw [hv]
      clear hv hck hk3
      go_enter Tryd.func77, Tryd.ntmps77
      go_wp2_with fail
      refine (Unpack_any x _ hx hL).mono ?_
      rintro e w1 ⟨he, hb1⟩
      rw [HU.out] at he
      subst he
      go_wp2_with (go_at_call 90; refine (pack_any 1 n a b m _ (by omega) (by omega) ((hL.below hb1).alloc _)).mono ?_; rintro e w2 ⟨rfl, hb2⟩)
      go_ret2
      exact ⟨rfl, by (repeat' (first | exact Below.refl _ _ | assumption | refine balloc ?_ _ | refine below_drawn ?_ _ | refine below_drew ?_ | refine bnext ?_ hb24 | refine bnext ?_ hb23 | refine bnext ?_ hb22 | refine bnext ?_ hb21 | refine bnext ?_ hb20 | refine bnext ?_ hb19 | refine bnext ?_ hb18 | refine bnext ?_ hb17 | refine bnext ?_ hb16 | refine bnext ?_ hb15 | refine bnext ?_ hb14 | refine bnext ?_ hb13 | refine bnext ?_ hb12 | refine bnext ?_ hb11 | refine bnext ?_ hb10 | refine bnext ?_ hb9 | refine bnext ?_ hb8 | refine bnext ?_ hb7 | refine bnext ?_ hb6 | refine bnext ?_ hb5 | refine bnext ?_ hb4 | refine bnext ?_ hb3 | refine bnext ?_ hb2 | refine bnext ?_ hb1))⟩
    · have hv : referR x m = (0, 9) := by unfold referR chgR; rw [HU.out]; simp [hk1]; omega
      rw [hv]
      have hkb : ((k : Int) != 1) = true := by simp; omega
      clear hv hck hk3 hk1
      go_enter Tryd.func77, Tryd.ntmps77
      go_wp2_with fail
      refine (Unpack_any x _ hx hL).mono ?_
      rintro e w1 ⟨he, hb1⟩
      rw [HU.out] at he
      subst he
      go_wp2_with fail
      go_ret2
      exact ⟨rfl, by (repeat' (first | exact Below.refl _ _ | assumption | refine balloc ?_ _ | refine below_drawn ?_ _ | refine below_drew ?_ | refine bnext ?_ hb24 | refine bnext ?_ hb23 | refine bnext ?_ hb22 | refine bnext ?_ hb21 | refine bnext ?_ hb20 | refine bnext ?_ hb19 | refine bnext ?_ hb18 | refine bnext ?_ hb17 | refine bnext ?_ hb16 | refine bnext ?_ hb15 | refine bnext ?_ hb14 | refine bnext ?_ hb13 | refine bnext ?_ hb12 | refine bnext ?_ hb11 | refine bnext ?_ hb10 | refine bnext ?_ hb9 | refine bnext ?_ hb8 | refine bnext ?_ hb7 | refine bnext ?_ hb6 | refine bnext ?_ hb5 | refine bnext ?_ hb4 | refine bnext ?_ hb3 | refine bnext ?_ hb2 | refine bnext ?_ hb1))⟩
  · have hv : referR x m = (0, er) := by unfold referR chgR; rw [HU.out]; simp [he]
    rw [hv]
    have heb : (er != 0) = true := by simpa using he
    clear hv hu hok he
    go_enter Tryd.func77, Tryd.ntmps77
    go_wp2_with fail
    refine (Unpack_any x _ hx hL).mono ?_
    rintro e w1 ⟨he, hb1⟩
    rw [HU.out] at he
    subst he
    go_wp2_with fail
    go_ret2
    exact ⟨rfl, by (repeat' (first | exact Below.refl _ _ | assumption | refine balloc ?_ _ | refine below_drawn ?_ _ | refine below_drew ?_ | refine bnext ?_ hb24 | refine bnext ?_ hb23 | refine bnext ?_ hb22 | refine bnext ?_ hb21 | refine bnext ?_ hb20 | refine bnext ?_ hb19 | refine bnext ?_ hb18 | refine bnext ?_ hb17 | refine bnext ?_ hb16 | refine bnext ?_ hb15 | refine bnext ?_ hb14 | refine bnext ?_ hb13 | refine bnext ?_ hb12 | refine bnext ?_ hb11 | refine bnext ?_ hb10 | refine bnext ?_ hb9 | refine bnext ?_ hb8 | refine bnext ?_ hb7 | refine bnext ?_ hb6 | refine bnext ?_ hb5 | refine bnext ?_ hb4 | refine bnext ?_ hb3 | refine bnext ?_ hb2 | refine bnext ?_ hb1))⟩

end Go.Proofs.YtmjahjdnfijpkaaDoor
/- Forks as plain numbers and lists: what the functions of package fork return. No walk here. -/
namespace Go.Proofs.YtmjahjdnfijpkaaDoor
open Go Go.Proofs Go.RowKit
set_option linter.unusedSimpArgs false
set_option linter.unusedVariables false

/-- The error of an address space that is to be forked. -/
def rooE (s : Sp) : Int := orE (spcE s) (if s.2.1 = -1 then 9 else 0)
/-- How many frames a fork needs. -/
def neeN (ls : List Int) : Nat := 1 + (frmL ls 8).length
def neeR (s : Sp) : Int × Int := if rooE s ≠ 0 then (0, rooE s) else ((neeN s.2.2.1 : Int), 0)
/-- Whether an entry has a frame, below page n. -/
def preB (es : List Nat) (f : Int) (n : Nat) : Bool := (List.range n).any fun p => decide ((entP es p).1 = 1) && decide ((entP es p).2.1 = f)
/-- Whether an address space uses a frame. -/
def usedB (s : Sp) (f : Int) : Bool := decide (f = s.2.1) || decide (f ∈ frmL s.2.2.1 8) || preB s.2.2.2 f 64
/-- The error of the frame number i of a fork. -/
def fitF (s : Sp) (fr : List Int) (i : Nat) : Int :=
  if fr.getD i 0 < 0 ∨ 255 < fr.getD i 0 then 2 else if usedB s (fr.getD i 0) = true ∨ fr.getD i 0 ∈ fr.take i then 7 else 0
def forE (s : Sp) (fr : List Int) : Int := orE (rooE s) (orE (if fr.length = neeN s.2.2.1 then 0 else 15) (fst0 (fitF s fr) fr.length))
/-- The leaves of the child. -/
def chiA (fr ls : List Int) (j : Nat) : Int := if ls.getD j 0 = -1 then -1 else fr.getD (1 + (frmL ls j).length) 0
def chiL (fr ls : List Int) : List Int := (List.range 8).map (chiA fr ls)
/-- The words of both sides. -/
def parW (x : Nat) : Nat := if unpK x = 1 then packN 1 (unpR x).1.2.1.toNat false true (unpR x).1.2.2.2.2 else x
def chiW (x : Nat) : Nat := if unpK x = 1 then packN 1 (unpR x).1.2.1.toNat false true false else x
def parS (s : Sp) : Sp := (s.1, s.2.1, s.2.2.1, s.2.2.2.map parW)
def chiS (s : Sp) (fr : List Int) : Sp := (s.1, fr.getD 0 0, chiL fr s.2.2.1, s.2.2.2.map chiW)
def forR (s : Sp) (fr : List Int) : Sp × Sp × Int := if forE s fr ≠ 0 then (sp0, sp0, forE s fr) else (parS s, chiS s fr, 0)
/-- The numbers of the entries of a kind below page n. -/
def numL (es : List Nat) (kd : Int) (n : Nat) : List Int := ((List.range n).filter fun p => decide ((entP es p).1 = kd)).map fun p => (entP es p).2.1
def shaR (s : Sp) : List Int × List Int × Int := if spcE s ≠ 0 then ([], [], spcE s) else (numL s.2.2.2 1 64, numL s.2.2.2 2 64, 0)
/-- The pages below n in which two address spaces differ. -/
def difB (a b : Sp) (p : Nat) : Bool := (hasP a.1 p != hasP b.1 p) || (decide ((entP a.2.2.2 p).1 ≠ (entP b.2.2.2 p).1) || decide ((entP a.2.2.2 p).2.1 ≠ (entP b.2.2.2 p).2.1))
def difL (a b : Sp) (n : Nat) : List Int := ((List.range n).filter (difB a b)).map fun p : Nat => (p : Int)
def difR (a b : Sp) : List Int × Int := if orE (spcE a) (spcE b) ≠ 0 then ([], orE (spcE a) (spcE b)) else (difL a b 64, 0)
def samR (a b : Sp) : Bool × Int := (decide ((difR a b).2 = 0 ∧ (difR a b).1 = []), (difR a b).2)
/-- One more for a frame. -/
def bump (c : List Int) (x : Int) : List Int := c.set x.toNat (c.getD x.toNat 0 + 1)
def zer : List Int := List.replicate 256 0
def couL (l : List Sp) (k : Nat) : List Int := ((l.take k).flatMap fun s => numL s.2.2.2 1 64).foldl bump zer
def couE (l : List Sp) : Int := if 8 < l.length then 15 else fst0 (fun i => spcE (l.getD i sp0)) l.length
def couR (l : List Sp) : List Int × Int := if couE l ≠ 0 then ([], couE l) else (couL l l.length, 0)
/-- Entries that nobody shares. -/
def fowB (cs : List Int) (x : Nat) : Bool := decide (unpK x = 1) && ((unpR x).1.2.2.2.1 && decide (cs.getD (unpR x).1.2.1.toNat 0 ≤ 1))
def fowW (cs : List Int) (x : Nat) : Nat := if fowB cs x = true then packN 1 (unpR x).1.2.1.toNat true false (unpR x).1.2.2.2.2 else x
def fowN (es : List Nat) (cs : List Int) (n : Nat) : Nat := ((List.range n).filter fun p => fowB cs (es.getD p 0)).length
def fowE (s : Sp) (cs : List Int) : Int := orE (spcE s) (if cs.length ≠ 256 ∨ ∃ x ∈ cs, x < 0 then 15 else 0)
def fowR (s : Sp) (cs : List Int) : Sp × Int × Int := if fowE s cs ≠ 0 then (sp0, 0, fowE s cs) else ((s.1, s.2.1, s.2.2.1, s.2.2.2.map (fowW cs)), (fowN s.2.2.2 cs 64 : Int), 0)
theorem preB_succ (es : List Nat) (f : Int) (n : Nat) : preB es f (n + 1) = (preB es f n || (decide ((entP es n).1 = 1) && decide ((entP es n).2.1 = f))) := by
  unfold preB
  rw [List.range_succ, List.any_append]
  simp
theorem fst0_lt {f : Nat → Int} {k n : Nat} (h : fst0 f n = 0) (hk : k < n) : f k = 0 := (fst0_zero f n).1 h k hk
end Go.Proofs.YtmjahjdnfijpkaaDoor
