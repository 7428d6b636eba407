/- Equal page tables. -/
import Derived.Test.YtnmknbnidfmmoaaDoorTab19
namespace Go.Proofs.YtnmknbnidfmmoaaDoor
open Go Go.Proofs Go.RowKit
set_option linter.unusedSimpArgs false
set_option linter.unusedVariables false
set_option maxRecDepth 100000

theorem TbV.below {w w' : World} {v : Value} {t : Tb} (h : TbV w v t) (hb : Below w.heap.size w w') : TbV w' v t := h.to hb
theorem TbV.alloc {w : World} {v : Value} {t : Tb} (h : TbV w v t) (o : Obj) : TbV (w.alloc o) v t := h.to ((Below.refl _ _).alloc (Nat.le_refl _) _)
theorem TbV.drew {w : World} {v : Value} {t : Tb} (h : TbV w v t) : TbV w.drew v t := h.to (below_drew (Below.refl _ _))
theorem IsV.below {w w' : World} {v : Value} {zs : List Int} (h : IsV w v zs) (hb : Below w.heap.size w w') : IsV w' v zs := h.to hb
theorem IsV.alloc {w : World} {v : Value} {zs : List Int} (h : IsV w v zs) (o : Obj) : IsV (w.alloc o) v zs := h.to ((Below.refl _ _).alloc (Nat.le_refl _) _)
theorem IsV.drew {w : World} {v : Value} {zs : List Int} (h : IsV w v zs) : IsV w.drew v zs := h.to (below_drew (Below.refl _ _))
theorem IsV.new (w : World) (zs : List Int) (t : TypeId) : IsV (w.alloc (.cells (iw zs).toArray t)) (.slice (some ⟨w.heap.size, 0, none⟩) zs.length zs.length) zs :=
  ⟨some ⟨w.heap.size, 0, none⟩, zs.length, rfl, by have := Rd.new (w := w) (sz := 1) (n := zs.length) (iw zs).toArray t (by simp [iw]); simpa using this⟩

set_option maxHeartbeats 1000000 in
theorem SameTable_eq (r : Int) (ls : List Int) (es : List Nat) (v v2 : Value) (w : World) (hv : TbV w v (r, ls, es)) (hv2 : TbV w v2 (r, ls, es)) (hs : wsmall es) (hn : ls.length ≤ 1000) (hm : es.length ≤ 1000) :
    Calls Tryd.prog 14 #[v, v2] w fun e w' => e = .returned (.bool true) ∧ Below w.heap.size w w' := by
  obtain ⟨A, c, B, d, rfl, hA, hB, _⟩ := hv
  obtain ⟨A2, c2, B2, d2, rfl, hA2, hB2, _⟩ := hv2
  simp only at hA hB hA2 hB2
  unfold tabV
  simp only
  have k1 := (Bk.new w #[.int .i64 r, .slice A ls.length c, .slice B es.length d] 25).alloc (.cells #[.int .i64 r, .slice A2 ls.length c2, .slice B2 es.length d2] 25)
  have k2 := Bk.new (w.alloc (.cells #[.int .i64 r, .slice A ls.length c, .slice B es.length d] 25)) #[.int .i64 r, .slice A2 ls.length c2, .slice B2 es.length d2] 25
  rw [World.size_alloc] at k2
  have hB1 := balloc (balloc (Below.refl _ w) (.cells #[.int .i64 r, .slice A ls.length c, .slice B es.length d] 25)) (.cells #[.int .i64 r, .slice A2 ls.length c2, .slice B2 es.length d2] 25)
  generalize hw1 : (w.alloc (.cells #[.int .i64 r, .slice A ls.length c, .slice B es.length d] 25)).alloc (.cells #[.int .i64 r, .slice A2 ls.length c2, .slice B2 es.length d2] 25) = w1 at *
  obtain ⟨c1, f1, l1⟩ := k1.facts
  obtain ⟨c2', f2, l2⟩ := k2.facts
  have hSI := SameInts_eq A A2 ls.length c c2 ls w1 (hA.below hB1 (Nat.le_refl _)) (hA2.below hB1 (Nat.le_refl _)) (by omega)
  go_enter Tryd.func14, Tryd.ntmps14
  go_wp2_with (first
    | (go_at_call 25; refine hSI.mono ?_; rintro e w2 ⟨rfl, hb2⟩; obtain ⟨c3, f3, l3⟩ := (k1.to hb2).facts; obtain ⟨c4, f4, l4⟩ := (k2.to hb2).facts)
    | (go_at_call 45; refine (SameWords_eq B B2 es.length d d2 es _ (hB.below (bnext hB1 hb2) (Nat.le_refl _)) (hB2.below (bnext hB1 hb2) (Nat.le_refl _)) hs (by omega)).mono ?_; rintro e w3 ⟨rfl, hb3⟩))
  go_ret
  exact ⟨rfl, bnext (bnext hB1 hb2) hb3⟩
theorem SameInts_v (zs : List Int) (v v2 : Value) (w : World) (h : IsV w v zs) (h2 : IsV w v2 zs) (hn : zs.length ≤ 1000) :
    Calls Tryd.prog 25 #[v, v2] w fun e w' => e = .returned (.bool true) ∧ Below w.heap.size w w' := by
  obtain ⟨A, c, rfl, hA⟩ := h
  obtain ⟨B, d, rfl, hB⟩ := h2
  exact SameInts_eq A B zs.length c d zs w hA hB (by omega)
theorem tbv_put3 {w : World} {v : Value} {t : Tb} {lo g : Nat} (h : TbV w v t) (hl : TLoc lo v) (hg : g < lo) (x y z : Value) : TbV (((w.setCell ⟨g, 0, none⟩ x).setCell ⟨g, 1, none⟩ y).setCell ⟨g, 2, none⟩ z) v t := by
  obtain ⟨A, c, B, d, rfl, h1, h2, h3⟩ := h
  obtain ⟨l1, l2⟩ := hl _ _ _ _ _ _ _ rfl
  have k1 : ∀ b off, 0 < t.2.1.length → A = some ⟨b, off, none⟩ → b ≠ g := fun b off hn e => by have := l1 b off hn e; omega
  have k2 : ∀ b off, 0 < t.2.2.length → B = some ⟨b, off, none⟩ → b ≠ g := fun b off hn e => by have := l2 b off hn e; omega
  exact ⟨A, c, B, d, rfl, ((h1.far (p := ⟨g, 0, none⟩) k1 x).far (p := ⟨g, 1, none⟩) k1 y).far (p := ⟨g, 2, none⟩) k1 z, ((h2.far (p := ⟨g, 0, none⟩) k2 x).far (p := ⟨g, 1, none⟩) k2 y).far (p := ⟨g, 2, none⟩) k2 z, h3⟩
theorem Bk.newd (w : World) (cs : Array Value) (t : TypeId) : Bk (w.drew.alloc (.cells cs t)) w.heap.size cs t := Bk.new w.drew cs t
theorem TLoc.mono {lo lo' : Nat} {v : Value} (h : TLoc lo v) (hl : lo' ≤ lo) : TLoc lo' v := fun r A n c B m d e =>
  ⟨fun b off hn he => Nat.le_trans hl ((h r A n c B m d e).1 b off hn he), fun b off hn he => Nat.le_trans hl ((h r A n c B m d e).2 b off hn he)⟩
/-- A box with a table in it, whose slices lie in blocks from lo on. -/
def TbX (w : World) (p : Nat) (t : Tb) (lo : Nat) : Prop := ∃ A c B d, Bk w p #[.int .i64 t.1, .slice A t.2.1.length c, .slice B t.2.2.length d] 25 ∧ TbV w (.agg #[.int .i64 t.1, .slice A t.2.1.length c, .slice B t.2.2.length d]) t ∧ TLoc lo (.agg #[.int .i64 t.1, .slice A t.2.1.length c, .slice B t.2.2.length d])
theorem page5_any (w : World) : Calls Tryd.prog 41 #[] w fun e w' => e = .returned (.agg #[.int .i64 1, .int .i64 5, .bool true, .bool false, .bool false]) ∧ Below w.heap.size w w' := by
  go_enter Tryd.func41, Tryd.ntmps41
  go_wp2_with fail
  have kR := Bk.new w #[.int .i64 1, .int .i64 5, .bool true, .bool false, .bool false] 35
  exact bodyPost_ret (kR.res1 (P := Tryd.prog) rfl _ rfl (by kernel_rfl) (by kernel_rfl)) rfl ⟨rfl, balloc (Below.refl _ _) _⟩
theorem slot2_any (w : World) : Calls Tryd.prog 62 #[] w fun e w' => e = .returned (.agg #[.int .i64 2, .int .i64 2, .bool false, .bool false, .bool false]) ∧ Below w.heap.size w w' := by
  go_enter Tryd.func62, Tryd.ntmps62
  go_wp2_with fail
  have kR := Bk.new w #[.int .i64 2, .int .i64 2, .bool false, .bool false, .bool false] 35
  exact bodyPost_ret (kR.res1 (P := Tryd.prog) rfl _ rfl (by kernel_rfl) (by kernel_rfl)) rfl ⟨rfl, balloc (Below.refl _ _) _⟩
end Go.Proofs.YtnmknbnidfmmoaaDoor
