/- Keys of the maps of package cow: entries, and tables as arrays. -/
import Derived.Test.YtomndlnfidkdcaaDoorCow3
import Derived.Test.YtomndlnfidkdcaaDoorMapG
import Derived.DeepKeys4
namespace Go.Proofs.YtomndlnfidkdcaaDoor
open Go Go.Proofs Go.RowKit Go.Maps
set_option linter.unusedSimpArgs false
set_option linter.unusedVariables false

theorem laidP : laidOutB Tryd.prog = true := by kernel_rfl
theorem lawE : Keyed Tryd.prog 61 := Keyed.of_law (deep_law_laid laidP (m := 2) (by omega) (of_decide_eq_true (by kernel_rfl)) (by kernel_rfl) (by kernel_rfl))
theorem lawT : Keyed Tryd.prog 99 := Keyed.of_law (deep_law_laid laidP (m := 2) (by omega) (of_decide_eq_true (by kernel_rfl)) (by kernel_rfl) (by kernel_rfl))
/-- A use as a key. -/
def kf (a : Int × Int) : Value := .agg #[.int .i64 a.1, .int .i64 a.2, .bool false, .bool false, .bool false]
theorem kf_inj (a b : Int × Int) (h : kf a = kf b) : a = b := by
  obtain ⟨x, y⟩ := a
  obtain ⟨u, v⟩ := b
  simp [kf] at h
  rw [h.1, h.2]
theorem mapM_some {α β : Type} (f : α → Option β) : ∀ l : List α, (∀ x ∈ l, ∃ y, f x = some y) → ∃ ys, l.mapM f = some ys
  | [], _ => ⟨[], rfl⟩
  | x :: l, h => by
    obtain ⟨y, hy⟩ := h x (by simp)
    obtain ⟨ys, hys⟩ := mapM_some f l fun z hz => h z (by simp [hz])
    exact ⟨y :: ys, by simp [List.mapM_cons, hy, hys]⟩
theorem keyTypeE : Tryd.prog.keyType 61 = true := by kernel_rfl
theorem cellsE : Tryd.prog.cellsOf 61 = 5 := by kernel_rfl
theorem cellsI : Tryd.prog.cellsOf 3 = 1 := by kernel_rfl
theorem cellsB : Tryd.prog.cellsOf 4 = 1 := by kernel_rfl
theorem keyTypeT : Tryd.prog.keyType 99 = true := by kernel_rfl
theorem cellsT : Tryd.prog.cellsOf 99 = 64 := by kernel_rfl
theorem cellsW : Tryd.prog.cellsOf 52 = 1 := by kernel_rfl
theorem typesPos : 0 < Tryd.prog.types.size := of_decide_eq_true (by kernel_rfl)
theorem typesSucc : ∃ m, Tryd.prog.types.size = m + 1 := Nat.exists_eq_succ_of_ne_zero (Nat.pos_iff_ne_zero.1 typesPos)
def i64ok (n : Int) : Prop := -9223372036854775808 ≤ n ∧ n ≤ 9223372036854775807
theorem keyE (a : Int × Int) (h1 : i64ok a.1) (h2 : i64ok a.2) : ∃ l, keyOf Tryd.prog 61 (kf a) = some l := by
  obtain ⟨k, n⟩ := a
  have w1 : (Lit.int .i64 k).wf = true := WalkArith.wf_i64 (by unfold i64ok at h1; simp only at h1; omega)
  have w2 : (Lit.int .i64 n).wf = true := WalkArith.wf_i64 (by unfold i64ok at h2; simp only at h2; omega)
  obtain ⟨m, hm⟩ := typesSucc
  have hfd : (kf (k, n)).formed Tryd.prog 61 = true := by simp [kf, Value.formed, Tryd.underlying61, cellsE]
  have hlits : ∃ ls, Tryd.prog.keyLits (m + 1 + 1) 61 [.int .i64 k, .int .i64 n, .bool false, .bool false, .bool false] = some ls := by
    unfold Program.keyLits
    simp only [Tryd.underlying61, cellsE]
    simp [cellsI, cellsB, Program.keyLits, Tryd.underlying3, Tryd.underlying4, w1, w2]
  obtain ⟨ls, hls⟩ := hlits
  refine ⟨.string (keyBytes ls), ?_⟩
  unfold keyOf
  simp only [Tryd.underlying61, keyTypeE, hfd, Bool.and_self, if_true, hm]
  unfold kf
  simp only [Value.cells, hls, Option.map_some]
/-- A table as a key. -/
def kt (ws : List Nat) : Value := .agg (uw ws).toArray
theorem uw_inj : ∀ (a b : List Nat), uw a = uw b → a = b
  | [], [], _ => rfl
  | [], _ :: _, h => by simp [uw] at h
  | _ :: _, [], h => by simp [uw] at h
  | x :: a, y :: b, h => by
    simp [uw] at h
    rw [uw_inj a b (by simpa [uw] using h.2)]
    congr 1
    exact Int.ofNat.inj h.1
theorem kt_inj (a b : List Nat) (h : kt a = kt b) : a = b := by
  unfold kt at h
  injection h with h
  exact uw_inj a b (by simpa using congrArg Array.toList h)
theorem keyT (ws : List Nat) (hl : ws.length = 64) (hs : wsmall ws) : ∃ l, keyOf Tryd.prog 99 (kt ws) = some l := by
  obtain ⟨m, hm⟩ := typesSucc
  have hlits : ∃ ls, Tryd.prog.keyLits (m + 1 + 1) 99 (uw ws) = some ls := by
    unfold Program.keyLits
    simp only [Tryd.underlying99, cellsT, uw_len, hl, if_true, cellsW]
    obtain ⟨ys, hys⟩ := mapM_some (fun i => Tryd.prog.keyLits (m + 1) 52 (List.take 1 (List.drop (i * 1) (uw ws)))) (List.range 64) (by
      intro i hi2
      simp only [List.mem_range] at hi2
      have hl2 : i < ws.length := by omega
      have hd : List.take 1 (List.drop (i * 1) (uw ws)) = [.int .u64 (ws[i] : Nat)] := by
        rw [Nat.mul_one]
        have h3 : i < (uw ws).length := by rw [uw_len]; exact hl2
        rw [List.drop_eq_getElem_cons h3]
        simp [uw]
      have hw : (Lit.int .u64 (ws[i] : Nat)).wf = true := by
        have := hs _ (List.getElem_mem hl2)
        simp [Lit.wf, IntKind.min, IntKind.max, IntKind.signed, IntKind.bits]
        omega
      rw [hd]
      unfold Program.keyLits
      simp only [Tryd.underlying52, hw]
      exact ⟨_, rfl⟩)
    rw [hys]
    exact ⟨_, rfl⟩
  obtain ⟨ls, hls⟩ := hlits
  have hfd : (Value.agg (uw ws).toArray).formed Tryd.prog 99 = true := by
    simp [Value.formed, Tryd.underlying99, cellsT, uw_len, hl]
  refine ⟨.string (keyBytes ls), ?_⟩
  unfold keyOf kt
  simp only [Tryd.underlying99, keyTypeT, hfd, Bool.and_self, if_true, Value.cells, hm, hls, Option.map_some]
end Go.Proofs.YtomndlnfidkdcaaDoor
