/- What the reference of chapter 27 returns: own, Set, owner, Owner. -/
import Derived.Test.YtpkgfkhaiifooaaGreatDoorSpR
import Derived.Test.YtpkgfkhaiifooaaGreatDoorSpS
import Derived.Test.YtpkgfkhaiifooaaGreatDoorGZ
import Derived.Deep.RegionHeld3
import Derived.Deep.RegionLaw
import Derived.Deep.RegionLawGrows
namespace Go.Proofs.YtpkgfkhaiifooaaGreatDoor
open Go Go.Proofs Go.RowKit
set_option linter.unusedSimpArgs false
set_option linter.unusedVariables false
set_option maxRecDepth 100000

theorem run_append_zero {P : Program} (w : World) (t ty e : TypeId) (i : TypeInfo) (ht : P.underlying t = some (.slice e)) (hi : P.info? e = some i) (g : Addr) (A : Option Addr) (c : Nat) : (Builtin.append_ #[t, t] ty #[.slice (some g) 0 0, .slice A 0 c]).run P w = .ok (.slice (some g) 0 0) w := by
  cases A with
  | none => simp [Builtin.append_, run_underlying ht, sizeOf, typeInfo, hi, Builtin.lenOf, Builtin.firstCells, storeCells]
  | some ad =>
    have h0 : (loadCells ad 0).run P w = .ok #[] w := by simp [loadCells, loadCellsFrom]
    simp [Builtin.append_, run_underlying ht, sizeOf, typeInfo, hi, Builtin.lenOf, Builtin.firstCells, h0, storeCells]
theorem step_append_any {P : Program} {ops : Array Oper} {o : Oper} {a : Act} {w : World} {K : Act → World → Prop} {Q : Exit → Act → World → Prop} {E : Prop}
    (hg : o.guard = none) (s x : Operand) (t : TypeId) (hop : o.op = Op.call { callee := Callee.builtin Builtin.append, args := #[s, x], argTypes := #[t, t] })
    (e : TypeId) (i : TypeInfo) (z : Value) (size bytes : Nat) (h1 : P.underlying t = some (.slice e)) (h2 : P.info? e = some i) (h3 : i.zero = some z) (h4 : i.size = size) (h5 : i.bytes = bytes) (h6 : z.cells.size = size) (h7 : 0 < size)
    (g : Addr) (hs : a.eval s = .slice (some g) 0 0)
    (A : Option Addr) (m c : Nat) (news : List Value) (hx : a.eval x = .slice A m c) (hr : Rd w size A m news) (h1c : ∀ u ∈ news, u.oneCell' = true)
    (b1 : m ≤ maxLen) (b2 : m * bytes ≤ 140737488355328)
    (hK : ∀ (A' : Option Addr) (c' : Nat) w', Rd w' size A' m news → (∀ b off, 0 < m → A' = some ⟨b, off, none⟩ → w.heap.size ≤ b ∧ b < w'.heap.size) → m ≤ c' → Below w.heap.size w w' → K (a.put o.dst (.slice A' m c')) w') :
    if Region.wanted o (yielded ops a.tmps) = true then Oper.wp P o a w K Q else E := by
  rcases Nat.eq_zero_or_pos m with h0 | h0
  · subst h0
    have hw : Region.wanted o (yielded ops a.tmps) = true := by simp [Region.wanted, hg]
    rw [if_pos hw]
    have hrun := run_append_zero (P := P) w t o.type e i h1 h2 g A c
    unfold Oper.wp
    simp [execOp, hop, resolve, invoke, builtin, hs, hx, hrun, Result.andThen]
    exact hK _ _ _ (by have := List.eq_nil_of_length_eq_zero (show news.length = 0 by simpa using hr.1); rw [this]; exact Rd.zero _) (fun b off h => absurd h (by omega)) (Nat.le_refl _) (Below.refl _ _)
  · refine step_append_own hg s x t hop e i z size bytes h1 h2 h3 h4 h5 h6 h7 g hs A m c news hx hr h1c b1 b2 h0 ?_
    intro g' c' w' hown hb
    refine hK _ _ _ (Rd.own hown) (fun b off _ he => ?_) ?_ hb
    · injection he with he
      injection he with he
      subst he
      exact hown.lt _ rfl
    · rcases hown.2 with ⟨h0', _⟩ | ⟨g2, cap2, cur, h1', _, _, hnc, _⟩
      · cases h0'
      · injection h1' with _ _ h1'; omega

set_option maxHeartbeats 8000000 in
theorem rSpOwn_any (rs : List (Int × Int)) (r : Int) (ls : List Int) (es : List Nat) (v : Value) (w : World) (hv : SpV w v (rs, r, ls, es)) (hn : rs.length ≤ 1000000) (hl : ls.length ≤ 1000) (hm : es.length ≤ 1000) :
    Calls Tryz.prog 25 #[v] w fun e w' => ∃ v', e = .returned v' ∧ SpV w' v' (rs, r, ls, es) ∧ SLoc w.heap.size v' ∧ Below w.heap.size w w' := by
  obtain ⟨A, c, L, cl, B, d, rfl, hA, hLs, hB, hcc⟩ := hv
  simp only at hA hLs hB hcc
  unfold spcV
  simp only
  obtain ⟨q0, hq, hq0, hq1, hq2⟩ := info_parts infoRgK
  obtain ⟨i0, hi, hz0, hz1, hz2⟩ := info_parts infoInt
  obtain ⟨j0, hj, hy0, hy1, hy2⟩ := info_parts infoU64
  have kS := ((Bk.new w #[.slice A rs.length c, .int .i64 r, .slice L ls.length cl, .slice B es.length d] 28).alloc (.cells #[.slice none 0 0, .int .i64 0, .slice none 0 0, .slice none 0 0] 28)).alloc (.cells #[.int .i64 r, .slice L ls.length cl, .slice B es.length d] 26)
  have kR := (Bk.new (w.alloc (.cells #[.slice A rs.length c, .int .i64 r, .slice L ls.length cl, .slice B es.length d] 28)) #[.slice none 0 0, .int .i64 0, .slice none 0 0, .slice none 0 0] 28).alloc (.cells #[.int .i64 r, .slice L ls.length cl, .slice B es.length d] 26)
  have kT := Bk.new ((w.alloc (.cells #[.slice A rs.length c, .int .i64 r, .slice L ls.length cl, .slice B es.length d] 28)).alloc (.cells #[.slice none 0 0, .int .i64 0, .slice none 0 0, .slice none 0 0] 28)) #[.int .i64 r, .slice L ls.length cl, .slice B es.length d] 26
  simp only [World.size_alloc] at kR kT
  have hB1 := balloc (balloc (balloc (Below.refl _ w) (.cells #[.slice A rs.length c, .int .i64 r, .slice L ls.length cl, .slice B es.length d] 28)) (.cells #[.slice none 0 0, .int .i64 0, .slice none 0 0, .slice none 0 0] 28)) (.cells #[.int .i64 r, .slice L ls.length cl, .slice B es.length d] 26)
  obtain ⟨cS, fS, lS⟩ := ((Bk.new w #[.slice A rs.length c, .int .i64 r, .slice L ls.length cl, .slice B es.length d] 28).alloc (.cells #[.slice none 0 0, .int .i64 0, .slice none 0 0, .slice none 0 0] 28)).facts
  go_enter Tryz.func25, Tryz.ntmps25
  go_wp2_with fail
  clear cS fS lS
  generalize hw1 : ((w.alloc (.cells #[.slice A rs.length c, .int .i64 r, .slice L ls.length cl, .slice B es.length d] 28)).alloc (.cells #[.slice none 0 0, .int .i64 0, .slice none 0 0, .slice none 0 0] 28)).alloc (.cells #[.int .i64 r, .slice L ls.length cl, .slice B es.length d] 26) = w1 at *
  clear hw1
  have hA1 := hA.below hB1 (Nat.le_refl _)
  have hL1 := hLs.below hB1 (Nat.le_refl _)
  have hE1 := hB.below hB1 (Nat.le_refl _)
  have s0 := kS.cell 0
  have t0 := kT.cell 0
  have t1 := kT.cell 1
  have t2 := kT.cell 2
  simp at s0 t0 t1 t2
  have hsR := kT.lt
  clear kS kT hA hLs hB
  go_region_held3 (fun w' => w'.cell? ⟨w.heap.size, 0, none⟩ = some (.slice A rs.length c) ∧ w'.cell? ⟨w.heap.size + 1 + 1, 0, none⟩ = some (.int .i64 r) ∧ w'.cell? ⟨w.heap.size + 1 + 1, 1, none⟩ = some (.slice L ls.length cl) ∧ w'.cell? ⟨w.heap.size + 1 + 1, 2, none⟩ = some (.slice B es.length d))
    (refine ⟨?_, ?_, ?_, ?_⟩ <;> (repeat (with_reducible first | exact s0 | exact t0 | exact t1 | exact t2 | refine cell_drew ?_ | refine cell_later hbU ?_ | refine cell_later hbI ?_ | refine cell_later hbR ?_ | refine cell_alloc _ ?_ | refine cell_far ?_ (by show _ ≠ _; simp only; omega) _)))
    (first
      | (refine step_append_any rfl _ _ 22 rfl 72 q0 (.agg #[.int .i64 0, .int .i64 0]) 2 16 Tryz.underlying22 hq hq0 hq1 hq2 rfl (by decide) _ rfl A rs.length c (flat2 .i64 rs) rfl (by repeat (with_reducible first | exact hA1 | refine Rd.drew1 ?_ | refine Rd.alloc ?_ _)) (oneCells_flat2 _ _) (by simp only [maxLen]; omega) (by omega) ?_
         intro AR cR wR hrR hlR hcR hbR
         have hsR1 : w1.heap.size ≤ wR.heap.size := Nat.le_trans (by (try simp only [World.size_alloc, World.size_drew]); omega) hbR.size)
      | (refine step_append_any rfl _ _ 23 rfl 3 i0 (.int .i64 0) 1 8 Tryz.underlying23 hi hz0 hz1 hz2 rfl (by decide) _ rfl L ls.length cl (iw ls) rfl (by repeat (with_reducible first | exact hL1 | refine Rd.to ?_ hbR | refine Rd.drew1 ?_ | refine Rd.alloc ?_ _)) (oneCells_int _ _) (by simp only [maxLen]; omega) (by omega) ?_
         intro AI cI wI hrI hlI hcI hbI
         have hsI : wR.heap.size ≤ wI.heap.size := Nat.le_trans (by (try simp only [World.size_alloc, World.size_drew]); omega) hbI.size)
      | (refine step_append_any rfl _ _ 24 rfl 85 j0 (.int .u64 0) 1 8 Tryz.underlying24 hj hy0 hy1 hy2 rfl (by decide) _ rfl B es.length d (uw es) rfl (by repeat (with_reducible first | exact hE1 | refine Rd.to ?_ hbI | refine Rd.to ?_ hbR | refine Rd.drew1 ?_ | refine Rd.alloc ?_ _)) (oneCells_uw _) (by simp only [maxLen]; omega) (by omega) ?_
         intro AU cU wU hrU hlU hcU hbU
         have kRU : Bk wU (w.heap.size + 1) #[.slice none 0 0, .int .i64 0, .slice none 0 0, .slice none 0 0] 28 := by repeat (with_reducible first | exact kR | refine Bk.to ?_ hbU | refine Bk.to ?_ hbI | refine Bk.to ?_ hbR | refine Bk.drew ?_ | refine Bk.alloc ?_ _)
         obtain ⟨cRU, fRU, lRU⟩ := kRU.facts))
  all_goals
    have hBU : Below w.heap.size w wU := by repeat (with_reducible first | exact hB1 | refine bnext ?_ hbU | refine bnext ?_ hbI | refine bnext ?_ hbR | refine below_drew ?_ | refine balloc ?_ _)
    have hrR2 : Rd wU 2 AR rs.length (flat2 .i64 rs) := by repeat (with_reducible first | exact hrR | refine Rd.to ?_ hbU | refine Rd.to ?_ hbI | refine Rd.alloc ?_ _)
    have hrI2 : Rd wU 1 AI ls.length (iw ls) := by repeat (with_reducible first | exact hrI | refine Rd.to ?_ hbU | refine Rd.alloc ?_ _)
    simp only [World.size_alloc, World.size_drew] at hlR hlI hlU
    have hsp : SpV wU (.agg #[.slice AR rs.length cR, .int .i64 r, .slice AI ls.length cI, .slice AU es.length cU]) (rs, r, ls, es) := ⟨AR, cR, AI, cI, AU, cU, rfl, hrR2, hrI2, hrU, hcI⟩
    have hsl : SLoc w1.heap.size (.agg #[.slice AR rs.length cR, .int .i64 r, .slice AI ls.length cI, .slice AU es.length cU]) := SLoc.mk (fun b off h0 he => by have := hlR b off h0 he; omega) (fun b off h0 he => by have := hlI b off h0 he; omega) (fun b off h0 he => by have := hlU b off h0 he; omega)
    have kF := kRU.put4 (.slice AR rs.length cR) (.int .i64 r) (.slice AI ls.length cI) (.slice AU es.length cU)
    have hBF := below_put4 hBU (g := w.heap.size + 1) (by omega) (.slice AR rs.length cR) (.int .i64 r) (.slice AI ls.length cI) (.slice AU es.length cU)
    have hvF := spv_put4 hsp hsl (g := w.heap.size + 1) (by omega) (.slice AR rs.length cR) (.int .i64 r) (.slice AI ls.length cI) (.slice AU es.length cU)
    go_wp2_with fail
    exact bodyPost_ret (kF.res1 (P := Tryz.prog) rfl _ rfl (by kernel_rfl) (by kernel_rfl)) rfl ⟨_, rfl, hvF, hsl.mono (by omega), hBF⟩
end Go.Proofs.YtpkgfkhaiifooaaGreatDoor
