/- Equal losses. -/
import Derived.Test.YtpkgfkhaiifooaaGreatDoorGL
namespace Go.Proofs.YtpkgfkhaiifooaaGreatDoor
open Go Go.Proofs Go.RowKit
set_option linter.unusedSimpArgs false
set_option linter.unusedVariables false
set_option maxRecDepth 100000

theorem loW_get (los : List Lo) (i j : Nat) (x : Lo) (h : los[i]? = some x) (hj : j < 7) : (loW los)[i * 7 + j]? = (loC x)[j]? := by
  induction los generalizing i with
  | nil => simp at h
  | cons y ys ih =>
    have e : loW (y :: ys) = loC y ++ loW ys := by simp [loW]
    have hl : (loC y).length = 7 := rfl
    rw [e]
    cases i with
    | zero =>
      simp at h
      subst h
      rw [Nat.zero_mul, Nat.zero_add, List.getElem?_append_left (by omega)]
    | succ i =>
      rw [List.getElem?_append_right (by omega), hl, show (i + 1) * 7 + j - 7 = i * 7 + j by omega]
      exact ih i (by simpa using h)
theorem Rd.loss {w : World} {A : Option Addr} {los : List Lo} (h : Rd w 7 A los.length (loW los)) {k : Nat} (hk : k < los.length) (x : Lo) (hx : los[k]? = some x) :
    ∃ b off, A = some ⟨b, off, none⟩ ∧ b < w.heap.size ∧ w.cell? ⟨b, off + k * 7, none⟩ = some (.int .i64 x.1) ∧ w.cell? ⟨b, off + k * 7 + 1, none⟩ = some (.int .i64 x.2.1.1) ∧ w.cell? ⟨b, off + k * 7 + 2, none⟩ = some (.int .i64 x.2.1.2.1) ∧ w.cell? ⟨b, off + k * 7 + 3, none⟩ = some (.bool x.2.1.2.2.1) ∧ w.cell? ⟨b, off + k * 7 + 4, none⟩ = some (.bool x.2.1.2.2.2.1) ∧ w.cell? ⟨b, off + k * 7 + 5, none⟩ = some (.bool x.2.1.2.2.2.2) ∧ w.cell? ⟨b, off + k * 7 + 6, none⟩ = some (.int .i64 x.2.2) := by
  obtain ⟨b, off, rfl, hb, hc⟩ := h.2 (by omega)
  have q : ∀ j, j < 7 → ∀ u, (loC x)[j]? = some u → w.cell? ⟨b, off + k * 7 + j, none⟩ = some u := fun j hj u hu => by
    rw [Nat.add_assoc]
    exact hc _ _ (by rw [loW_get _ _ _ _ hx hj]; exact hu)
  exact ⟨b, off, rfl, hb, q 0 (by omega) _ rfl, q 1 (by omega) _ rfl, q 2 (by omega) _ rfl, q 3 (by omega) _ rfl, q 4 (by omega) _ rfl, q 5 (by omega) _ rfl, q 6 (by omega) _ rfl⟩

set_option maxHeartbeats 1000000 in
theorem SameLost_eq (los : List Lo) (v v2 : Value) (w : World) (h : IsLo w v los) (h2 : IsLo w v2 los) (hn : los.length ≤ 1000) :
    Calls Tryz.prog 12 #[v, v2] w fun e w' => e = .returned (.bool true) ∧ Below w.heap.size w w' := by
  obtain ⟨A, c, rfl, ha⟩ := h
  obtain ⟨B, d, rfl, hb⟩ := h2
  obtain ⟨n, hnn⟩ : ∃ n, n = los.length := ⟨_, rfl⟩
  have ha' := ha
  have hb' := hb
  rw [← hnn] at hn ⊢
  go_enter Tryz.func12, Tryz.ntmps12
  go_wp2
  go_loopw [5] (fun i wr => ∃ k : Nat, k ≤ n ∧ i = .int .i64 k ∧ Below w.heap.size w wr) (fun i _ => n - (intOf i).toNat)
  case atStart => exact ⟨0, Nat.zero_le _, rfl, Below.refl _ _⟩
  case round =>
    obtain ⟨k, hk, rfl, hbw⟩ := hrel
    by_cases hlt : k < n
    · obtain ⟨x, hx⟩ : ∃ x, los[k]? = some x := ⟨_, List.getElem?_eq_getElem (by omega)⟩
      obtain ⟨b, off, rfl, hbl, p0, p1, p2, p3, p4, p5, p6⟩ := (ha.below hbw (Nat.le_refl _)).loss (by omega) x hx
      obtain ⟨b', off', rfl, hbl', q0, q1, q2, q3, q4, q5, q6⟩ := (hb.below hbw (Nat.le_refl _)).loss (by omega) x hx
      obtain ⟨x0, ⟨x1, x2, x3, x4, x5⟩, x6⟩ := x
      simp only at p0 p1 p2 p3 p4 p5 p6 q0 q1 q2 q3 q4 q5 q6
      clear hx ha hb ha' hb' hnn
      go_wp2_with fail
      go_quiet (fail)
      go_wp2
      go_roundw
      case rel => exact ⟨k + 1, by omega, by go_num, below_drawn hbw _⟩
      case measure => simp [intOf]; omega
    · go_wp2
      go_ret
      exact ⟨rfl, hbw⟩
end Go.Proofs.YtpkgfkhaiifooaaGreatDoor
