/- What space.Access returns. -/
import Derived.Test.YtpkgfkhaiifooaaGreatDoorSpC
import Derived.Test.YtpkgfkhaiifooaaGreatDoorGT
namespace Go.Proofs.YtpkgfkhaiifooaaGreatDoor
open Go Go.Proofs Go.RowKit
set_option linter.unusedSimpArgs false
set_option linter.unusedVariables false
set_option maxRecDepth 100000

theorem spIsPage (n : Int) (w : World) :
    Calls Tryz.prog 74 #[.int .i64 n] w fun e w' => e = .returned (.bool (decide (0 ≤ n) && decide (n < 64))) ∧ w' = w := by
  by_cases h : 0 ≤ n
  · go_enter Tryz.func74, Tryz.ntmps74
    go_wp2
    go_ret
    exact ⟨by simp [h], rfl⟩
  · go_enter Tryz.func74, Tryz.ntmps74
    go_wp2
    go_ret
    exact ⟨by simp; omega, rfl⟩
theorem spIsPage_t (p : Nat) (w : World) (h : p < 64) : Calls Tryz.prog 74 #[.int .i64 p] w fun e w' => e = .returned (.bool true) ∧ w' = w := by
  refine (spIsPage p w).mono ?_
  rintro e w' ⟨rfl, rfl⟩
  have h1 : decide ((0 : Int) ≤ p) = true := by simp
  have h2 : decide ((p : Int) < 64) = true := by simp; omega
  exact ⟨by rw [h1, h2]; rfl, rfl⟩
theorem spIsPage_f (n : Int) (w : World) (h : n < 0 ∨ 63 < n) : Calls Tryz.prog 74 #[.int .i64 n] w fun e w' => e = .returned (.bool false) ∧ w' = w := by
  refine (spIsPage n w).mono ?_
  rintro e w' ⟨rfl, rfl⟩
  have h2 : (decide (0 ≤ n) && decide (n < 64)) = false := by rw [Bool.and_eq_false_iff]; simp only [decide_eq_false_iff_not]; omega
  exact ⟨by rw [h2], rfl⟩
theorem spNumber (n : Int) (w : World) :
    Calls Tryz.prog 76 #[.int .i64 n] w fun e w' => e = .returned (.int .i64 n) ∧ w' = w := by
  go_enter Tryz.func76, Tryz.ntmps76
  go_wp2
  go_ret
  exact ⟨rfl, rfl⟩

theorem SpV.tab {w : World} {rs : List (Int × Int)} {r : Int} {ls : List Int} {es : List Nat} {A L B : Option Addr} {c cl d : Nat} (hL : Rd w 1 L ls.length (iw ls)) (hB : Rd w 1 B es.length (uw es)) (h : ls.length ≤ cl) : TbV w (.agg #[.int .i64 r, .slice L ls.length cl, .slice B es.length d]) (r, ls, es) := tbv_of hL hB h

def finV (m lk wr a : Bool) (k count : Int) : Int := if m = false then 1 else if k = 2 then 8 else if k = 0 then (if wr = false then 2 else if lk = true then 5 else 6) else if wr = false ∨ a = true then 3 else if count ≤ 1 then 4 else 7
theorem finR_eq (s : Sp) (p : Nat) (wr : Bool) (count : Int) : finR s p wr count = finV (hasP s.1 p) (decide (s.2.2.1.getD (p / 8) 0 = -1)) wr (entP s.2.2.2 p).2.2.1 (entP s.2.2.2 p).1 count := by
  unfold finR finV
  simp only [decide_eq_true_eq]
set_option maxHeartbeats 4000000 in
theorem finds_any (rs : List (Int × Int)) (r : Int) (ls : List Int) (es : List Nat) (v : Value) (p : Nat) (wr : Bool) (count : Int) (w : World) (hv : SpV w v (rs, r, ls, es)) (hn : rs.length ≤ 1000000) (hs : wsmall es) (hL : LayOK w) (hE : spcE (rs, r, ls, es) = 0) (hp : p < 64) :
    Calls Tryz.prog 77 #[v, .int .i64 p, .bool wr, .int .i64 count] w fun e w' => e = .returned (.int .i64 (finR (rs, r, ls, es) p wr count)) ∧ Below w.heap.size w w' := by
  obtain ⟨hg, hT, _⟩ := spc_zero hE
  simp only at hg hT
  rw [finR_eq]
  simp only
  obtain ⟨A, c, L, cl, B, d, rfl, hA, hLs, hB, hcc⟩ := hv
  simp only at hA hLs hB hcc
  unfold spcV
  simp only
  have HH := Lib.hid (fun W h => Has_rg A rs.length c rs p W h hn)
  rw [hasRg_ok rs p hg hp] at HH
  have HG := Lib.hid (fun W (h1 : Rd W 1 L ls.length (iw ls) ∧ Rd W 1 B es.length (uw es)) h2 => TGet_any r ls es _ p W (tbv_of (L := L) (B := B) (cl := cl) (d := d) h1.1 h1.2 hcc) hs h2)
  rw [get_in hT p hp] at HG
  have HLk := Lib.hid (fun W (h1 : Rd W 1 L ls.length (iw ls) ∧ Rd W 1 B es.length (uw es)) h2 => TLacks_any r ls es _ p W (tbv_of (L := L) (B := B) (cl := cl) (d := d) h1.1 h1.2 hcc) hs h2)
  have hlk : lackR r ls es p = (decide (ls.getD (p / 8) 0 = -1), 0) := by
    have ha : askE r ls es p = 0 := by unfold askE; rw [orE_r _ hT, if_neg (by omega)]
    unfold lackR
    rw [if_neg (by simp [ha]), Int.toNat_natCast]
  rw [hlk] at HLk
  clear hlk
  have hent : entP es p = (unpR (es.getD p 0)).1 := rfl
  have her := unp_in hT p hp
  have hrd : ∀ W, Below w.heap.size w W → Rd W 1 L ls.length (iw ls) ∧ Rd W 1 B es.length (uw es) := fun W hb => ⟨hLs.below hb (Nat.le_refl _), hB.below hb (Nat.le_refl _)⟩
  have kS := Bk.new w #[.slice A rs.length c, .int .i64 r, .slice L ls.length cl, .slice B es.length d] 28
  have hB1 := balloc (Below.refl _ w) (.cells #[.slice A rs.length c, .int .i64 r, .slice L ls.length cl, .slice B es.length d] 28)
  generalize hw1 : w.alloc (.cells #[.slice A rs.length c, .int .i64 r, .slice L ls.length cl, .slice B es.length d] 28) = w1 at *
  obtain ⟨cS, fS, lS⟩ := kS.facts
  rw [hent]
  rcases hu : unpR (es.getD p 0) with ⟨⟨ek, en, ea, eb, ec⟩, er⟩
  rw [hu] at HG her
  simp only at her HG ⊢
  subst her
  clear hu hent
  generalize decide (ls.getD (p / 8) 0 = -1) = lk at *
  have Hrd := Lib.hid hrd
  clear hrd hT hE hLs hB
  rcases hm : hasP rs p with _ | _
  · rw [hm] at HH
    clear hm
    go_enter Tryz.func77, Tryz.ntmps77
    go_wp2_with (go_at_call 46; refine (HH.out _ (hA.below hB1 (Nat.le_refl _))).mono ?_; rintro e w2 ⟨rfl, hb2⟩)
    go_ret
    exact ⟨rfl, bnext hB1 hb2⟩
  · rw [hm] at HH
    clear hm
    have hcs : (∃ z, z = finV true lk wr ea ek count) ∧ (ek = 2 ∨ (ek ≠ 2 ∧ ek = 0 ∧ wr = false) ∨ (ek ≠ 2 ∧ ek = 0 ∧ wr = true ∧ lk = true) ∨ (ek ≠ 2 ∧ ek = 0 ∧ wr = true ∧ lk = false) ∨ (ek ≠ 2 ∧ ek ≠ 0 ∧ wr = false) ∨ (ek ≠ 2 ∧ ek ≠ 0 ∧ wr = true ∧ ea = true) ∨ (ek ≠ 2 ∧ ek ≠ 0 ∧ wr = true ∧ ea = false ∧ count ≤ 1) ∨ (ek ≠ 2 ∧ ek ≠ 0 ∧ wr = true ∧ ea = false ∧ ¬ count ≤ 1)) := by
      refine ⟨⟨_, rfl⟩, ?_⟩
      cases wr <;> cases lk <;> cases ea <;> simp <;> omega
    obtain ⟨⟨z, hz⟩, hcs⟩ := hcs
    rw [← hz]
    have HZ := Lib.hid hz
    clear hz
    rcases hcs with h1 | ⟨h1, h2, h3⟩ | ⟨h1, h2, h3, h4⟩ | ⟨h1, h2, h3, h4⟩ | ⟨h1, h2, h3⟩ | ⟨h1, h2, h3, h4⟩ | ⟨h1, h2, h3, h4, h5⟩ | ⟨h1, h2, h3, h4, h5⟩
    · subst h1
      have HZ2 := Lib.hid (show z = 8 from by rw [HZ.out]; simp [finV])
      clear HZ
      go_enter Tryz.func77, Tryz.ntmps77
      go_wp2_with (first
        | (go_at_call 46; refine (HH.out _ (hA.below hB1 (Nat.le_refl _))).mono ?_; rintro e w2 ⟨rfl, hb2⟩; clear cS fS lS; obtain ⟨cS, fS, lS⟩ := (kS.to hb2).facts)
        | (go_at_call 95; refine (HG.out _ (Hrd.out _ (bnext hB1 hb2)) (hL.below (bnext hB1 hb2))).mono ?_; rintro e w3 ⟨rfl, hb3⟩; clear cS fS lS; obtain ⟨cS, fS, lS⟩ := ((kS.to hb2).to hb3).facts)
        | (go_at_call 96; refine (HLk.out _ (Hrd.out _ (balloc (bnext (bnext hB1 hb2) hb3) _)) (hL.below (balloc (bnext (bnext hB1 hb2) hb3) _))).mono ?_; rintro e w4 ⟨rfl, hb4⟩; obtain ⟨cE, fE, lE⟩ := ((Bk.new w3 _ _).to hb4).facts))
      go_ret
      exact ⟨by rw [HZ2.out]; rfl, bnext (balloc (bnext (bnext hB1 hb2) hb3) _) hb4⟩
    · subst h2 h3
      have HZ2 := Lib.hid (show z = 2 from by rw [HZ.out]; simp [finV])
      clear h1
      clear HZ
      go_enter Tryz.func77, Tryz.ntmps77
      go_wp2_with (first
        | (go_at_call 46; refine (HH.out _ (hA.below hB1 (Nat.le_refl _))).mono ?_; rintro e w2 ⟨rfl, hb2⟩; clear cS fS lS; obtain ⟨cS, fS, lS⟩ := (kS.to hb2).facts)
        | (go_at_call 95; refine (HG.out _ (Hrd.out _ (bnext hB1 hb2)) (hL.below (bnext hB1 hb2))).mono ?_; rintro e w3 ⟨rfl, hb3⟩; clear cS fS lS; obtain ⟨cS, fS, lS⟩ := ((kS.to hb2).to hb3).facts)
        | (go_at_call 96; refine (HLk.out _ (Hrd.out _ (balloc (bnext (bnext hB1 hb2) hb3) _)) (hL.below (balloc (bnext (bnext hB1 hb2) hb3) _))).mono ?_; rintro e w4 ⟨rfl, hb4⟩; obtain ⟨cE, fE, lE⟩ := ((Bk.new w3 _ _).to hb4).facts))
      go_ret
      exact ⟨by rw [HZ2.out]; rfl, bnext (balloc (bnext (bnext hB1 hb2) hb3) _) hb4⟩
    · subst h2 h3 h4
      have HZ2 := Lib.hid (show z = 5 from by rw [HZ.out]; simp [finV])
      clear h1
      clear HZ
      go_enter Tryz.func77, Tryz.ntmps77
      go_wp2_with (first
        | (go_at_call 46; refine (HH.out _ (hA.below hB1 (Nat.le_refl _))).mono ?_; rintro e w2 ⟨rfl, hb2⟩; clear cS fS lS; obtain ⟨cS, fS, lS⟩ := (kS.to hb2).facts)
        | (go_at_call 95; refine (HG.out _ (Hrd.out _ (bnext hB1 hb2)) (hL.below (bnext hB1 hb2))).mono ?_; rintro e w3 ⟨rfl, hb3⟩; clear cS fS lS; obtain ⟨cS, fS, lS⟩ := ((kS.to hb2).to hb3).facts)
        | (go_at_call 96; refine (HLk.out _ (Hrd.out _ (balloc (bnext (bnext hB1 hb2) hb3) _)) (hL.below (balloc (bnext (bnext hB1 hb2) hb3) _))).mono ?_; rintro e w4 ⟨rfl, hb4⟩; obtain ⟨cE, fE, lE⟩ := ((Bk.new w3 _ _).to hb4).facts))
      go_ret
      exact ⟨by rw [HZ2.out]; rfl, bnext (balloc (bnext (bnext hB1 hb2) hb3) _) hb4⟩
    · subst h2 h3 h4
      have HZ2 := Lib.hid (show z = 6 from by rw [HZ.out]; simp [finV])
      clear h1
      clear HZ
      go_enter Tryz.func77, Tryz.ntmps77
      go_wp2_with (first
        | (go_at_call 46; refine (HH.out _ (hA.below hB1 (Nat.le_refl _))).mono ?_; rintro e w2 ⟨rfl, hb2⟩; clear cS fS lS; obtain ⟨cS, fS, lS⟩ := (kS.to hb2).facts)
        | (go_at_call 95; refine (HG.out _ (Hrd.out _ (bnext hB1 hb2)) (hL.below (bnext hB1 hb2))).mono ?_; rintro e w3 ⟨rfl, hb3⟩; clear cS fS lS; obtain ⟨cS, fS, lS⟩ := ((kS.to hb2).to hb3).facts)
        | (go_at_call 96; refine (HLk.out _ (Hrd.out _ (balloc (bnext (bnext hB1 hb2) hb3) _)) (hL.below (balloc (bnext (bnext hB1 hb2) hb3) _))).mono ?_; rintro e w4 ⟨rfl, hb4⟩; obtain ⟨cE, fE, lE⟩ := ((Bk.new w3 _ _).to hb4).facts))
      go_ret
      exact ⟨by rw [HZ2.out]; rfl, bnext (balloc (bnext (bnext hB1 hb2) hb3) _) hb4⟩
    · subst h3
      have HZ2 := Lib.hid (show z = 3 from by rw [HZ.out]; simp [finV, h1, h2])
      have d1 : (ek == 2) = false := by simpa using h1
      have d2 : (ek == 0) = false := by simpa using h2
      clear h1 h2
      clear HZ
      go_enter Tryz.func77, Tryz.ntmps77
      go_wp2_with (first
        | (go_at_call 46; refine (HH.out _ (hA.below hB1 (Nat.le_refl _))).mono ?_; rintro e w2 ⟨rfl, hb2⟩; clear cS fS lS; obtain ⟨cS, fS, lS⟩ := (kS.to hb2).facts)
        | (go_at_call 95; refine (HG.out _ (Hrd.out _ (bnext hB1 hb2)) (hL.below (bnext hB1 hb2))).mono ?_; rintro e w3 ⟨rfl, hb3⟩; clear cS fS lS; obtain ⟨cS, fS, lS⟩ := ((kS.to hb2).to hb3).facts)
        | (go_at_call 96; refine (HLk.out _ (Hrd.out _ (balloc (bnext (bnext hB1 hb2) hb3) _)) (hL.below (balloc (bnext (bnext hB1 hb2) hb3) _))).mono ?_; rintro e w4 ⟨rfl, hb4⟩; obtain ⟨cE, fE, lE⟩ := ((Bk.new w3 _ _).to hb4).facts))
      go_ret
      exact ⟨by rw [HZ2.out]; rfl, bnext (balloc (bnext (bnext hB1 hb2) hb3) _) hb4⟩
    · subst h3 h4
      have HZ2 := Lib.hid (show z = 3 from by rw [HZ.out]; simp [finV, h1, h2])
      have d1 : (ek == 2) = false := by simpa using h1
      have d2 : (ek == 0) = false := by simpa using h2
      clear h1 h2
      clear HZ
      go_enter Tryz.func77, Tryz.ntmps77
      go_wp2_with (first
        | (go_at_call 46; refine (HH.out _ (hA.below hB1 (Nat.le_refl _))).mono ?_; rintro e w2 ⟨rfl, hb2⟩; clear cS fS lS; obtain ⟨cS, fS, lS⟩ := (kS.to hb2).facts)
        | (go_at_call 95; refine (HG.out _ (Hrd.out _ (bnext hB1 hb2)) (hL.below (bnext hB1 hb2))).mono ?_; rintro e w3 ⟨rfl, hb3⟩; clear cS fS lS; obtain ⟨cS, fS, lS⟩ := ((kS.to hb2).to hb3).facts)
        | (go_at_call 96; refine (HLk.out _ (Hrd.out _ (balloc (bnext (bnext hB1 hb2) hb3) _)) (hL.below (balloc (bnext (bnext hB1 hb2) hb3) _))).mono ?_; rintro e w4 ⟨rfl, hb4⟩; obtain ⟨cE, fE, lE⟩ := ((Bk.new w3 _ _).to hb4).facts))
      go_ret
      exact ⟨by rw [HZ2.out]; rfl, bnext (balloc (bnext (bnext hB1 hb2) hb3) _) hb4⟩
    · subst h3 h4
      have HZ2 := Lib.hid (show z = 4 from by rw [HZ.out]; simp [finV, h1, h2, h5])
      have d1 : (ek == 2) = false := by simpa using h1
      have d2 : (ek == 0) = false := by simpa using h2
      have d5 : decide (count ≤ 1) = true := by simpa using h5
      clear h5
      clear h1 h2
      clear HZ
      go_enter Tryz.func77, Tryz.ntmps77
      go_wp2_with (first
        | (go_at_call 46; refine (HH.out _ (hA.below hB1 (Nat.le_refl _))).mono ?_; rintro e w2 ⟨rfl, hb2⟩; clear cS fS lS; obtain ⟨cS, fS, lS⟩ := (kS.to hb2).facts)
        | (go_at_call 95; refine (HG.out _ (Hrd.out _ (bnext hB1 hb2)) (hL.below (bnext hB1 hb2))).mono ?_; rintro e w3 ⟨rfl, hb3⟩; clear cS fS lS; obtain ⟨cS, fS, lS⟩ := ((kS.to hb2).to hb3).facts)
        | (go_at_call 96; refine (HLk.out _ (Hrd.out _ (balloc (bnext (bnext hB1 hb2) hb3) _)) (hL.below (balloc (bnext (bnext hB1 hb2) hb3) _))).mono ?_; rintro e w4 ⟨rfl, hb4⟩; obtain ⟨cE, fE, lE⟩ := ((Bk.new w3 _ _).to hb4).facts))
      go_ret
      exact ⟨by rw [HZ2.out]; rfl, bnext (balloc (bnext (bnext hB1 hb2) hb3) _) hb4⟩
    · subst h3 h4
      have HZ2 := Lib.hid (show z = 7 from by rw [HZ.out]; simp [finV, h1, h2, h5])
      have d1 : (ek == 2) = false := by simpa using h1
      have d2 : (ek == 0) = false := by simpa using h2
      have d5 : decide (count ≤ 1) = false := by simpa using h5
      clear h5
      clear h1 h2
      clear HZ
      go_enter Tryz.func77, Tryz.ntmps77
      go_wp2_with (first
        | (go_at_call 46; refine (HH.out _ (hA.below hB1 (Nat.le_refl _))).mono ?_; rintro e w2 ⟨rfl, hb2⟩; clear cS fS lS; obtain ⟨cS, fS, lS⟩ := (kS.to hb2).facts)
        | (go_at_call 95; refine (HG.out _ (Hrd.out _ (bnext hB1 hb2)) (hL.below (bnext hB1 hb2))).mono ?_; rintro e w3 ⟨rfl, hb3⟩; clear cS fS lS; obtain ⟨cS, fS, lS⟩ := ((kS.to hb2).to hb3).facts)
        | (go_at_call 96; refine (HLk.out _ (Hrd.out _ (balloc (bnext (bnext hB1 hb2) hb3) _)) (hL.below (balloc (bnext (bnext hB1 hb2) hb3) _))).mono ?_; rintro e w4 ⟨rfl, hb4⟩; obtain ⟨cE, fE, lE⟩ := ((Bk.new w3 _ _).to hb4).facts))
      go_ret
      exact ⟨by rw [HZ2.out]; rfl, bnext (balloc (bnext (bnext hB1 hb2) hb3) _) hb4⟩

set_option maxHeartbeats 4000000 in
theorem Access_any (rs : List (Int × Int)) (r : Int) (ls : List Int) (es : List Nat) (v : Value) (page : Int) (wr : Bool) (count : Int) (w : World) (hv : SpV w v (rs, r, ls, es)) (hn : rs.length ≤ 1000000) (hs : wsmall es) (hL : LayOK w) :
    Calls Tryz.prog 42 #[v, .int .i64 page, .bool wr, .int .i64 count] w fun e w' => e = .returned (.tuple #[.int .i64 (accR (rs, r, ls, es) page wr count).1, .int .i64 (accR (rs, r, ls, es) page wr count).2]) ∧ Below w.heap.size w w' := by
  obtain ⟨A, c, L, cl, B, d, hve, hA, hLs, hB, hcc⟩ := id hv
  subst hve
  unfold spcV at hv ⊢
  simp only at hv ⊢
  have kS := Bk.new w #[.slice A rs.length c, .int .i64 r, .slice L ls.length cl, .slice B es.length d] 28
  have hB1 := balloc (Below.refl _ w) (.cells #[.slice A rs.length c, .int .i64 r, .slice L ls.length cl, .slice B es.length d] 28)
  have HC := Lib.hid (fun v W h1 h2 => spCheck_any rs r ls es v W h1 hn hs h2)
  obtain ⟨cS, fS, lS⟩ := kS.facts
  by_cases hE : spcE (rs, r, ls, es) = 0
  case neg =>
    have hR : accR (rs, r, ls, es) page wr count = (0, spcE (rs, r, ls, es)) := by unfold accR; rw [if_pos hE]
    rw [hR]
    have hd : (spcE (rs, r, ls, es) != 0) = true := by simpa using hE
    generalize spcE (rs, r, ls, es) = z at *
    clear hR hE
    go_enter Tryz.func42, Tryz.ntmps42
    go_wp2_with (go_at_call 20; refine (HC.out _ _ (hv.to hB1) (hL.below hB1)).mono ?_; rintro e w2 ⟨rfl, hb2⟩)
    go_ret2
    exact ⟨rfl, bnext hB1 hb2⟩
  by_cases hr : page < 0 ∨ 63 < page ∨ count < 0 ∨ 256 < count
  · have hR : accR (rs, r, ls, es) page wr count = (0, 2) := by unfold accR; rw [if_neg (by simpa using hE), if_pos hr]
    rw [hR]
    rw [hE] at HC
    have hcs : (¬ 0 ≤ page) ∨ (0 ≤ page ∧ ¬ page < 64) ∨ (0 ≤ page ∧ page < 64 ∧ count < 0) ∨ (0 ≤ page ∧ page < 64 ∧ ¬ count < 0 ∧ 256 < count) := by omega
    clear hR hr
    rcases hcs with h1 | ⟨h1, h2⟩ | ⟨h1, h2, h3⟩ | ⟨h1, h2, h3, h4⟩
    all_goals
      go_enter Tryz.func42, Tryz.ntmps42
      go_wp2_with (first
        | (go_at_call 20; refine (HC.out _ _ (hv.to hB1) (hL.below hB1)).mono ?_; rintro e w2 ⟨rfl, hb2⟩)
        | (go_at_call 74; refine (spIsPage _ _).mono ?_; rintro e w' ⟨rfl, rfl⟩))
      go_ret2
      exact ⟨rfl, bnext hB1 hb2⟩
  · have hR : accR (rs, r, ls, es) page wr count = (finR (rs, r, ls, es) page.toNat wr count, 0) := by unfold accR; rw [if_neg (by simpa using hE), if_neg hr]
    rw [hR]
    have h1 : 0 ≤ page := by omega
    have h2 : page < 64 := by omega
    have h3 : ¬ count < 0 := by omega
    have h4 : ¬ 256 < count := by omega
    obtain ⟨p, rfl⟩ : ∃ p : Nat, page = p := ⟨page.toNat, by omega⟩
    rw [Int.toNat_natCast]
    have HFn := Lib.hid (fun v W h1 h2 => finds_any rs r ls es v p wr count W h1 hn hs h2 hE (by omega))
    rw [hE] at HC
    generalize finR (rs, r, ls, es) p wr count = z at *
    clear hR hr hE
    go_enter Tryz.func42, Tryz.ntmps42
    go_wp2_with (first
      | (go_at_call 20; refine (HC.out _ _ (hv.to hB1) (hL.below hB1)).mono ?_; rintro e w2 ⟨rfl, hb2⟩; clear cS fS lS; obtain ⟨cS, fS, lS⟩ := (kS.to hb2).facts)
      | (go_at_call 74; refine (spIsPage _ _).mono ?_; rintro e w' ⟨rfl, rfl⟩)
      | (go_at_call 77; refine (HFn.out _ _ (hv.to (bnext hB1 hb2)) (hL.below (bnext hB1 hb2))).mono ?_; rintro e w3 ⟨rfl, hb3⟩)
      | (go_at_call 76; refine (spNumber _ _).mono ?_; rintro e w' ⟨rfl, rfl⟩))
    go_ret2
    exact ⟨rfl, bnext (bnext hB1 hb2) hb3⟩
end Go.Proofs.YtpkgfkhaiifooaaGreatDoor
