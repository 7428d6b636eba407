/- The tables' entries are the same but for one page. -/
import Derived.Test.YtnmknbnidfmmoaaDoorBackP
namespace Go.Proofs.YtnmknbnidfmmoaaDoor
open Go Go.Proofs Go.RowKit
set_option linter.unusedSimpArgs false
set_option linter.unusedVariables false
set_option maxRecDepth 100000

set_option maxHeartbeats 2000000 in
theorem others_any (r r' : Int) (ls ls' : List Int) (es es' : List Nat) (v v2 : Value) (page : Int) (w : World) (hv : TbV w v (r, ls, es)) (hv2 : TbV w v2 (r', ls', es')) (hs : wsmall es) (hs2 : wsmall es') (hE : tabE r ls es = 0) (hE2 : tabE r' ls' es' = 0) (hL : LayOK w)
    (heq : ∀ q : Nat, q < 64 → (q : Int) ≠ page → unpR (es.getD q 0) = unpR (es'.getD q 0)) :
    Calls Tryd.prog 39 #[v, v2, .int .i64 page] w fun e w' => e = .returned (.bool true) ∧ Below w.heap.size w w' := by
  obtain ⟨A1, c1, B1, d1, rfl, _, _, _⟩ := id hv
  obtain ⟨A2, c2, B2, d2, rfl, _, _, _⟩ := id hv2
  simp only [tabV] at hv hv2 ⊢
  have k1 := (Bk.new w #[.int .i64 r, .slice A1 ls.length c1, .slice B1 es.length d1] 25).alloc (.cells #[.int .i64 r', .slice A2 ls'.length c2, .slice B2 es'.length d2] 25)
  have k2 := Bk.new (w.alloc (.cells #[.int .i64 r, .slice A1 ls.length c1, .slice B1 es.length d1] 25)) #[.int .i64 r', .slice A2 ls'.length c2, .slice B2 es'.length d2] 25
  rw [World.size_alloc] at k2
  have hB1 := balloc (balloc (Below.refl _ w) (.cells #[.int .i64 r, .slice A1 ls.length c1, .slice B1 es.length d1] 25)) (.cells #[.int .i64 r', .slice A2 ls'.length c2, .slice B2 es'.length d2] 25)
  generalize hw1 : (w.alloc (.cells #[.int .i64 r, .slice A1 ls.length c1, .slice B1 es.length d1] 25)).alloc (.cells #[.int .i64 r', .slice A2 ls'.length c2, .slice B2 es'.length d2] 25) = w1 at *
  replace hv := hv.to hB1
  replace hv2 := hv2.to hB1
  replace hL := hL.below hB1
  go_enter Tryd.func39, Tryd.ntmps39
  go_wp2_with fail
  go_loopw [7] (fun s wr => ∃ k : Nat, k ≤ 64 ∧ s = .int .i64 k ∧ Below w1.heap.size w1 wr) (fun s _ => 64 - (intOf s).toNat)
  case atStart => exact ⟨0, by omega, rfl, Below.refl _ _⟩
  case round =>
    obtain ⟨k, hk, rfl, hBx⟩ := hrel
    replace k1 := k1.to hBx
    replace k2 := k2.to hBx
    replace hv := hv.to hBx
    replace hv2 := hv2.to hBx
    replace hL := hL.below hBx
    obtain ⟨x1, f1, l1⟩ := k1.facts
    obtain ⟨x2, f2, l2⟩ := k2.facts
    by_cases hlt : k < 64
    · obtain ⟨gk, gn, ga, gb, gc, hG, hU, hK⟩ := get_at hE k hlt
      obtain ⟨gk', gn', ga', gb', gc', hG', hU', hK'⟩ := get_at hE2 k hlt
      clear hK hK'
      have H1 := Lib.hid (TGet_any r ls es _ k _ hv hs hL)
      have H2 := Lib.hid (fun W h1 h2 => TGet_any r' ls' es' (.agg #[.int .i64 r', .slice A2 ls'.length c2, .slice B2 es'.length d2]) k W h1 hs2 h2)
      rw [hG] at H1
      rw [hG'] at H2
      clear hG hG'
      by_cases hp : (k : Int) = page
      · subst hp
        clear hU hU'
        have hd : ((k : Int) != (k : Int)) = false := by simp
        go_wp2_with (first
          | (go_at_call 17; refine H1.out.mono ?_; rintro e w2 ⟨rfl, hb2⟩; clear H1 x1 f1 l1 x2 f2 l2; replace k2 := (k2.to hb2).alloc (.cells #[.int .i64 gk, .int .i64 gn, .bool ga, .bool gb, .bool gc] 35); obtain ⟨x2, f2, l2⟩ := k2.facts)
          | (go_at_call 17; refine (H2.out _ ((hv2.to hb2).alloc _) ((hL.below hb2).alloc _)).mono ?_; rintro e w3 ⟨rfl, hb3⟩))
        go_roundw
        case rel => exact ⟨k + 1, by omega, by go_num, balloc (bnext (balloc (bnext hBx hb2) _) hb3) _⟩
        case measure => simp [intOf]; omega
      · have hd : ((k : Int) != page) = true := by simpa using hp
        have he := heq k hlt hp
        rw [hU, hU'] at he
        simp only [Prod.mk.injEq, and_true] at he
        obtain ⟨rfl, rfl, rfl, rfl, rfl⟩ := he
        clear hU hU' hp
        go_wp2_with (first
          | (go_at_call 17; refine H1.out.mono ?_; rintro e w2 ⟨rfl, hb2⟩; clear H1 x1 f1 l1 x2 f2 l2; replace k2 := (k2.to hb2).alloc (.cells #[.int .i64 gk, .int .i64 gn, .bool ga, .bool gb, .bool gc] 35); obtain ⟨x2, f2, l2⟩ := k2.facts; have kE := Bk.new w2 #[.int .i64 gk, .int .i64 gn, .bool ga, .bool gb, .bool gc] 35)
          | (go_at_call 17; refine (H2.out _ ((hv2.to hb2).alloc _) ((hL.below hb2).alloc _)).mono ?_; rintro e w3 ⟨rfl, hb3⟩; replace kE := kE.to hb3; obtain ⟨x3, f3, l3⟩ := kE.facts))
        go_roundw
        case rel => exact ⟨k + 1, by omega, by go_num, balloc (bnext (balloc (bnext hBx hb2) _) hb3) _⟩
        case measure => simp [intOf]; omega
    · obtain rfl : k = 64 := by omega
      go_wp2_with fail
      go_ret
      exact ⟨rfl, bnext hB1 hBx⟩
end Go.Proofs.YtnmknbnidfmmoaaDoor
