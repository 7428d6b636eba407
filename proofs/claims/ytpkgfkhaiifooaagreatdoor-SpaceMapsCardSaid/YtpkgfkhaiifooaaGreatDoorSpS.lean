/- What space.Set returns. -/
import Derived.Test.YtpkgfkhaiifooaaGreatDoorSpF
import Derived.Test.YtpkgfkhaiifooaaGreatDoorSpT
import Derived.Test.YtpkgfkhaiifooaaGreatDoorGU
import Derived.Test.YtpkgfkhaiifooaaGreatDoorGX
import Derived.Deep.RegionHeld3
namespace Go.Proofs.YtpkgfkhaiifooaaGreatDoor
open Go Go.Proofs Go.RowKit
set_option linter.unusedSimpArgs false
set_option linter.unusedVariables false
set_option maxRecDepth 100000

/-- Where the rows of an address space lie. -/
def SLoc (lo : Nat) (v : Value) : Prop := ∀ A n c r L l cl B m d, v = spcV A n c r L l cl B m d → (∀ b off, 0 < n → A = some ⟨b, off, none⟩ → lo ≤ b) ∧ (∀ b off, 0 < l → L = some ⟨b, off, none⟩ → lo ≤ b) ∧ (∀ b off, 0 < m → B = some ⟨b, off, none⟩ → lo ≤ b)
theorem SLoc.mk {lo : Nat} {A L B : Option Addr} {n c l cl m d : Nat} {r : Int} (h1 : ∀ b off, 0 < n → A = some ⟨b, off, none⟩ → lo ≤ b) (h2 : ∀ b off, 0 < l → L = some ⟨b, off, none⟩ → lo ≤ b) (h3 : ∀ b off, 0 < m → B = some ⟨b, off, none⟩ → lo ≤ b) : SLoc lo (.agg #[.slice A n c, .int .i64 r, .slice L l cl, .slice B m d]) := by
  intro A' n' c' r' L' l' cl' B' m' d' h
  simp only [spcV, Value.agg.injEq, Array.mk.injEq, List.cons.injEq, Value.slice.injEq] at h
  obtain ⟨⟨rfl, rfl, rfl⟩, _, ⟨rfl, rfl, rfl⟩, ⟨rfl, rfl, rfl⟩, _⟩ := h
  exact ⟨h1, h2, h3⟩
theorem SLoc.zero (lo : Nat) : SLoc lo (.agg #[.slice none 0 0, .int .i64 0, .slice none 0 0, .slice none 0 0]) := SLoc.mk (fun _ _ h => absurd h (by omega)) (fun _ _ h => absurd h (by omega)) (fun _ _ h => absurd h (by omega))
theorem SLoc.mono {lo lo' : Nat} {v : Value} (h : SLoc lo v) (hl : lo' ≤ lo) : SLoc lo' v := fun A n c r L l cl B m d e =>
  ⟨fun b off hn he => Nat.le_trans hl ((h A n c r L l cl B m d e).1 b off hn he), fun b off hn he => Nat.le_trans hl ((h A n c r L l cl B m d e).2.1 b off hn he), fun b off hn he => Nat.le_trans hl ((h A n c r L l cl B m d e).2.2 b off hn he)⟩
/-- The four cells of an address space's box. -/
theorem Bk.put4 {w : World} {b : Nat} {t : TypeId} {x y z u : Value} (h : Bk w b #[x, y, z, u] t) (x' y' z' u' : Value) : Bk ((((w.setCell ⟨b, 0, none⟩ x').setCell ⟨b, 1, none⟩ y').setCell ⟨b, 2, none⟩ z').setCell ⟨b, 3, none⟩ u') b #[x', y', z', u'] t := (((h.put 0 x').put 1 y').put 2 z').put 3 u'
theorem below_put4 {w : World} {g : Nat} {a : World} (h : Below a.heap.size a w) (hp : a.heap.size ≤ g) (x y z u : Value) : Below a.heap.size a ((((w.setCell ⟨g, 0, none⟩ x).setCell ⟨g, 1, none⟩ y).setCell ⟨g, 2, none⟩ z).setCell ⟨g, 3, none⟩ u) :=
  (((h.setCell (p := ⟨g, 0, none⟩) hp x).setCell (p := ⟨g, 1, none⟩) hp y).setCell (p := ⟨g, 2, none⟩) hp z).setCell (p := ⟨g, 3, none⟩) hp u
theorem Rd.far4 {w : World} {sz n g : Nat} {A : Option Addr} {xs : List Value} (h : Rd w sz A n xs) (hp : ∀ b off, 0 < n → A = some ⟨b, off, none⟩ → b ≠ g) (x y z u : Value) : Rd ((((w.setCell ⟨g, 0, none⟩ x).setCell ⟨g, 1, none⟩ y).setCell ⟨g, 2, none⟩ z).setCell ⟨g, 3, none⟩ u) sz A n xs :=
  (((h.far (p := ⟨g, 0, none⟩) hp x).far (p := ⟨g, 1, none⟩) hp y).far (p := ⟨g, 2, none⟩) hp z).far (p := ⟨g, 3, none⟩) hp u
theorem spv_put4 {w : World} {v : Value} {s : Sp} {lo g : Nat} (h : SpV w v s) (hl : SLoc lo v) (hg : g < lo) (x y z u : Value) : SpV ((((w.setCell ⟨g, 0, none⟩ x).setCell ⟨g, 1, none⟩ y).setCell ⟨g, 2, none⟩ z).setCell ⟨g, 3, none⟩ u) v s := by
  obtain ⟨A, c, L, cl, B, d, rfl, h1, h2, h3, h4⟩ := h
  obtain ⟨l1, l2, l3⟩ := hl _ _ _ _ _ _ _ _ _ _ rfl
  exact ⟨A, c, L, cl, B, d, rfl, h1.far4 (fun b off hn e => by have := l1 b off hn e; omega) x y z u, h2.far4 (fun b off hn e => by have := l2 b off hn e; omega) x y z u, h3.far4 (fun b off hn e => by have := l3 b off hn e; omega) x y z u, h4⟩
/-- An address space and an error as results, in new memory. -/
def SpResL (w w' : World) (s : Sp) (er : Int) (e : Ending) : Prop := ∃ v, e = .returned (.tuple #[v, .int .i64 er]) ∧ SpV w' v s ∧ SLoc w.heap.size v ∧ Below w.heap.size w w'
theorem own_loc {w : World} {base : Nat} {e : TypeId} {sz n m c : Nat} {A : Option Addr} {xs : List Value} (h : w.ownsRow base e sz (.slice A n c) m xs) : ∀ b off, 0 < n → A = some ⟨b, off, none⟩ → base ≤ b := by
  rintro b off _ rfl
  exact (h.lt b rfl).1
theorem spv_mk {w : World} {A L B : Option Addr} {c cl d : Nat} {rs : List (Int × Int)} {r : Int} {ls : List Int} {es : List Nat} (h1 : Rd w 2 A rs.length (flat2 .i64 rs)) (h2 : TbV w (.agg #[.int .i64 r, .slice L ls.length cl, .slice B es.length d]) (r, ls, es)) : SpV w (.agg #[.slice A rs.length c, .int .i64 r, .slice L ls.length cl, .slice B es.length d]) (rs, r, ls, es) := by
  obtain ⟨A', c', B', d', e, ha, hb, hc⟩ := h2
  simp only [tabV, Value.agg.injEq, Array.mk.injEq, List.cons.injEq, Value.slice.injEq] at e
  obtain ⟨_, ⟨rfl, _, rfl⟩, ⟨rfl, _, rfl⟩, _⟩ := e
  exact ⟨A, c, _, _, _, _, rfl, h1, ha, hb, hc⟩

set_option maxHeartbeats 4000000 in
theorem Set_any (rs : List (Int × Int)) (r : Int) (ls : List Int) (es : List Nat) (v : Value) (page k n : Int) (a b f : Bool) (w : World) (hv : SpV w v (rs, r, ls, es)) (hn : rs.length ≤ 1000000) (hs : wsmall es) (hL : LayOK w) :
    Calls Tryz.prog 40 #[v, .int .i64 page, .agg #[.int .i64 k, .int .i64 n, .bool a, .bool b, .bool f]] w fun e w' => SpResL w w' (setR (rs, r, ls, es) page k n a b f).1 (setR (rs, r, ls, es) page k n a b f).2 e := by
  obtain ⟨A, c, L, cl, B, d, hve, hA, hLs, hB, hcc⟩ := id hv
  subst hve
  unfold spcV at hv ⊢
  simp only at hv ⊢ hA hLs hB hcc
  have hB1 := balloc (balloc (balloc (Below.refl _ w) (.cells #[.slice A rs.length c, .int .i64 r, .slice L ls.length cl, .slice B es.length d] 28)) (.cells #[.int .i64 k, .int .i64 n, .bool a, .bool b, .bool f] 57)) (.cells #[.slice none 0 0, .int .i64 0, .slice none 0 0, .slice none 0 0] 28)
  have kS := ((Bk.new w #[.slice A rs.length c, .int .i64 r, .slice L ls.length cl, .slice B es.length d] 28).alloc (.cells #[.int .i64 k, .int .i64 n, .bool a, .bool b, .bool f] 57)).alloc (.cells #[.slice none 0 0, .int .i64 0, .slice none 0 0, .slice none 0 0] 28)
  have kE := (Bk.new (w.alloc (.cells #[.slice A rs.length c, .int .i64 r, .slice L ls.length cl, .slice B es.length d] 28)) #[.int .i64 k, .int .i64 n, .bool a, .bool b, .bool f] 57).alloc (.cells #[.slice none 0 0, .int .i64 0, .slice none 0 0, .slice none 0 0] 28)
  have kR := Bk.new ((w.alloc (.cells #[.slice A rs.length c, .int .i64 r, .slice L ls.length cl, .slice B es.length d] 28)).alloc (.cells #[.int .i64 k, .int .i64 n, .bool a, .bool b, .bool f] 57)) #[.slice none 0 0, .int .i64 0, .slice none 0 0, .slice none 0 0] 28
  simp only [World.size_alloc] at kE kR
  generalize hw1 : ((w.alloc (.cells #[.slice A rs.length c, .int .i64 r, .slice L ls.length cl, .slice B es.length d] 28)).alloc (.cells #[.int .i64 k, .int .i64 n, .bool a, .bool b, .bool f] 57)).alloc (.cells #[.slice none 0 0, .int .i64 0, .slice none 0 0, .slice none 0 0] 28) = w1 at *
  have HC := Lib.hid (spCheck_any rs r ls es _ w1 (hv.to hB1) hn hs (hL.below hB1))
  have hout : ∀ (er : Int) (W : World), setE (rs, r, ls, es) page k n a b f = er → er ≠ 0 → Below w.heap.size w W → Bk W (w.heap.size + 1 + 1) #[.slice none 0 0, .int .i64 0, .slice none 0 0, .slice none 0 0] 28 → (setR (rs, r, ls, es) page k n a b f).1 = sp0 ∧ (setR (rs, r, ls, es) page k n a b f).2 = er := fun er W h1 h2 _ _ => by unfold setR; rw [if_pos (by rw [h1]; exact h2), h1]; exact ⟨rfl, rfl⟩
  obtain ⟨cS, fS, lS⟩ := kS.facts
  obtain ⟨cE, fE, lE⟩ := kE.facts
  obtain ⟨cR, fR, lR⟩ := kR.facts
  by_cases hE : spcE (rs, r, ls, es) = 0
  case neg =>
    have hR : setR (rs, r, ls, es) page k n a b f = (sp0, spcE (rs, r, ls, es)) := by
      have : setE (rs, r, ls, es) page k n a b f = spcE (rs, r, ls, es) := by unfold setE; rw [orE_l _ hE]
      unfold setR; rw [if_pos (by rw [this]; exact hE), this]
    rw [hR]
    have hd : (spcE (rs, r, ls, es) != 0) = true := by simpa using hE
    generalize spcE (rs, r, ls, es) = z at *
    clear hR hE hout
    go_enter Tryz.func40, Tryz.ntmps40
    go_wp2_with (go_at_call 20; refine HC.out.mono ?_; rintro e w2 ⟨rfl, hb2⟩; clear cS fS lS cE fE lE cR fR lR; obtain ⟨cR, fR, lR⟩ := (kR.to hb2).facts)
    have kF := (kR.to hb2).put4 (.slice none 0 0) (.int .i64 0) (.slice none 0 0) (.slice none 0 0)
    have hBF := below_put4 (bnext hB1 hb2) (g := w.heap.size + 1 + 1) (by omega) (.slice none 0 0) (.int .i64 0) (.slice none 0 0) (.slice none 0 0)
    exact bodyPost_ret (kF.res2 (P := Tryz.prog) rfl _ rfl (by kernel_rfl) (by kernel_rfl)) rfl ⟨_, rfl, SpV.zero _, SLoc.zero _, hBF⟩
  -- REST
  obtain ⟨hg, hT, _⟩ := spc_zero hE
  simp only at hg hT
  rw [hE] at HC
  clear hout
  by_cases hpg : page < 0 ∨ 63 < page
  · have hR : setR (rs, r, ls, es) page k n a b f = (sp0, 2) := by
      have : setE (rs, r, ls, es) page k n a b f = 2 := by unfold setE; rw [orE_r _ hE, if_pos hpg]
      unfold setR; rw [if_pos (by rw [this]; decide), this]
    rw [hR]
    have HPG := Lib.hid (fun W => spIsPage_f page W hpg)
    clear hR hpg
    · go_enter Tryz.func40, Tryz.ntmps40
      go_wp2_with (first
        | (go_at_call 20; refine HC.out.mono ?_; rintro e w2 ⟨rfl, hb2⟩; clear cS fS lS cE fE lE cR fR lR; obtain ⟨cR, fR, lR⟩ := (kR.to hb2).facts; obtain ⟨cS, fS, lS⟩ := (kS.to hb2).facts; obtain ⟨cE, fE, lE⟩ := (kE.to hb2).facts)
        | (go_at_call 74; refine (HPG.out _).mono ?_; rintro e w' ⟨rfl, rfl⟩))
      have kF := (kR.to hb2).put4 (.slice none 0 0) (.int .i64 0) (.slice none 0 0) (.slice none 0 0)
      have hBF := below_put4 (bnext hB1 hb2) (g := w.heap.size + 1 + 1) (by omega) (.slice none 0 0) (.int .i64 0) (.slice none 0 0) (.slice none 0 0)
      exact bodyPost_ret (kF.res2 (P := Tryz.prog) rfl _ rfl (by kernel_rfl) (by kernel_rfl)) rfl ⟨_, rfl, SpV.zero _, SLoc.zero _, hBF⟩
  have h1 : 0 ≤ page := by omega
  have h2 : page < 64 := by omega
  clear hpg
  obtain ⟨p, rfl⟩ : ∃ p : Nat, page = p := ⟨page.toNat, by omega⟩
  have hp : p < 64 := by omega
  have HPG := Lib.hid (fun W => spIsPage_t p W hp)
  have hS0 : setE (rs, r, ls, es) p k n a b f = if hasP rs p = false then 6 else (putR r ls es p k n a b f).2 := by unfold setE; rw [orE_r _ hE, if_neg (by omega), Int.toNat_natCast]
  by_cases hm : hasP rs p = false
  · have hR : setR (rs, r, ls, es) p k n a b f = (sp0, 6) := by
      rw [if_pos hm] at hS0
      unfold setR; rw [if_pos (by rw [hS0]; decide), hS0]
    rw [hR]
    have Hm := Lib.hid hm
    clear hR hm hS0
    go_enter Tryz.func40, Tryz.ntmps40
    go_wp2_with (first
      | (go_at_call 20; refine HC.out.mono ?_; rintro e w2 ⟨rfl, hb2⟩; clear cS fS lS cE fE lE cR fR lR; obtain ⟨cR, fR, lR⟩ := (kR.to hb2).facts; obtain ⟨cS, fS, lS⟩ := (kS.to hb2).facts; obtain ⟨cE, fE, lE⟩ := (kE.to hb2).facts)
      | (go_at_call 74; refine (HPG.out _).mono ?_; rintro e w' ⟨rfl, rfl⟩)
      | (go_at_call 46; refine (Has_rg A rs.length c rs p _ (hA.below (bnext hB1 hb2) (Nat.le_refl _)) hn).mono ?_; rw [hasRg_ok rs p hg hp, Hm.out]; rintro e w3 ⟨rfl, hb3⟩; clear cS fS lS cE fE lE cR fR lR; obtain ⟨cR, fR, lR⟩ := ((kR.to hb2).to hb3).facts; obtain ⟨cS, fS, lS⟩ := ((kS.to hb2).to hb3).facts; obtain ⟨cE, fE, lE⟩ := ((kE.to hb2).to hb3).facts))
    all_goals
      have kF := ((kR.to hb2).to hb3).put4 (.slice none 0 0) (.int .i64 0) (.slice none 0 0) (.slice none 0 0)
      have hBF := below_put4 (bnext (bnext hB1 hb2) hb3) (g := w.heap.size + 1 + 1) (by omega) (.slice none 0 0) (.int .i64 0) (.slice none 0 0) (.slice none 0 0)
      exact bodyPost_ret (kF.res2 (P := Tryz.prog) rfl _ rfl (by kernel_rfl) (by kernel_rfl)) rfl ⟨_, rfl, SpV.zero _, SLoc.zero _, hBF⟩
  have Hm := Lib.hid (show hasP rs p = true by simpa using hm)
  rw [if_neg hm] at hS0
  clear hm
  by_cases hq : (putR r ls es p k n a b f).2 = 0
  case neg =>
    have hR : setR (rs, r, ls, es) p k n a b f = (sp0, (putR r ls es p k n a b f).2) := by unfold setR; rw [if_pos (by rw [hS0]; exact hq), hS0]
    rw [hR]
    have hd : ((putR r ls es p k n a b f).2 != 0) = true := by simpa using hq
    have HP := Lib.hid (fun W h1 h2 => TPut_any r ls es _ p k n a b f W (tbv_of (L := L) (B := B) (cl := cl) (d := d) (hLs.below h1 (Nat.le_refl _)) (hB.below h1 (Nat.le_refl _)) hcc) hs h2)
    generalize (putR r ls es p k n a b f).2 = z at *
    clear hR hq hS0
    go_enter Tryz.func40, Tryz.ntmps40
    go_wp2_with (first
      | (go_at_call 20; refine HC.out.mono ?_; rintro e w2 ⟨rfl, hb2⟩; clear cS fS lS cE fE lE cR fR lR; obtain ⟨cR, fR, lR⟩ := (kR.to hb2).facts; obtain ⟨cS, fS, lS⟩ := (kS.to hb2).facts; obtain ⟨cE, fE, lE⟩ := (kE.to hb2).facts)
      | (go_at_call 74; refine (HPG.out _).mono ?_; rintro e w' ⟨rfl, rfl⟩)
      | (go_at_call 46; refine (Has_rg A rs.length c rs p _ (hA.below (bnext hB1 hb2) (Nat.le_refl _)) hn).mono ?_; rw [hasRg_ok rs p hg hp, Hm.out]; rintro e w3 ⟨rfl, hb3⟩; clear cS fS lS cE fE lE cR fR lR; obtain ⟨cR, fR, lR⟩ := ((kR.to hb2).to hb3).facts; obtain ⟨cS, fS, lS⟩ := ((kS.to hb2).to hb3).facts; obtain ⟨cE, fE, lE⟩ := ((kE.to hb2).to hb3).facts)
      | (go_at_call 75; refine (HP.out _ (bnext (bnext hB1 hb2) hb3) (hL.below (bnext (bnext hB1 hb2) hb3))).mono ?_; rintro e w4 ⟨v4, rfl, hv4, hl4, hb4⟩; obtain ⟨A4, c4, B4, d4, rfl, _, _, _⟩ := id hv4; clear cS fS lS cE fE lE cR fR lR; obtain ⟨cR, fR, lR⟩ := (((kR.to hb2).to hb3).to hb4).facts; simp only [tabV]))
    all_goals
      have kF := ((((kR.to hb2).to hb3).to hb4).put4 (.slice none 0 0) (.int .i64 0) (.slice none 0 0) (.slice none 0 0)).alloc (.cells #[.int .i64 (putR r ls es p k n a b f).1.1, .slice A4 (putR r ls es p k n a b f).1.2.1.length c4, .slice B4 (putR r ls es p k n a b f).1.2.2.length d4] 26)
      have hBF := below_put4 (bnext (bnext (bnext hB1 hb2) hb3) hb4) (g := w.heap.size + 1 + 1) (by omega) (.slice none 0 0) (.int .i64 0) (.slice none 0 0) (.slice none 0 0)
      exact bodyPost_ret (kF.res2 (P := Tryz.prog) rfl _ rfl (by kernel_rfl) (by kernel_rfl)) rfl ⟨_, rfl, SpV.zero _, SLoc.zero _, balloc hBF _⟩
  have hR : setR (rs, r, ls, es) p k n a b f = ((rs, (putR r ls es p k n a b f).1), 0) := by unfold setR; rw [if_neg (by rw [hS0]; simpa using hq)]
  rw [hR]
  have HP := Lib.hid (fun W h1 h2 => TPut_any r ls es _ p k n a b f W (tbv_of (L := L) (B := B) (cl := cl) (d := d) (hLs.below h1 (Nat.le_refl _)) (hB.below h1 (Nat.le_refl _)) hcc) hs h2)
  rw [hq] at HP
  clear hR hq hS0
  rcases hpt : (putR r ls es p k n a b f).1 with ⟨r', ls', es'⟩
  rw [hpt] at HP
  clear hpt
  go_enter Tryz.func40, Tryz.ntmps40
  go_wp2_with (first
    | (go_at_call 20; refine HC.out.mono ?_; rintro e w2 ⟨rfl, hb2⟩; clear cS fS lS cE fE lE cR fR lR; obtain ⟨cR, fR, lR⟩ := (kR.to hb2).facts; obtain ⟨cS, fS, lS⟩ := (kS.to hb2).facts; obtain ⟨cE, fE, lE⟩ := (kE.to hb2).facts)
    | (go_at_call 74; refine (HPG.out _).mono ?_; rintro e w' ⟨rfl, rfl⟩)
    | (go_at_call 46; refine (Has_rg A rs.length c rs p _ (hA.below (bnext hB1 hb2) (Nat.le_refl _)) hn).mono ?_; rw [hasRg_ok rs p hg hp, Hm.out]; rintro e w3 ⟨rfl, hb3⟩; clear cS fS lS cE fE lE cR fR lR; obtain ⟨cR, fR, lR⟩ := ((kR.to hb2).to hb3).facts; obtain ⟨cS, fS, lS⟩ := ((kS.to hb2).to hb3).facts; obtain ⟨cE, fE, lE⟩ := ((kE.to hb2).to hb3).facts)
    | (go_at_call 75; refine (HP.out _ (bnext (bnext hB1 hb2) hb3) (hL.below (bnext (bnext hB1 hb2) hb3))).mono ?_; rintro e w4 ⟨v4, rfl, hv4, hl4, hb4⟩; obtain ⟨A4, c4, B4, d4, rfl, _, _, _⟩ := id hv4; clear cS fS lS cE fE lE cR fR lR; simp only [tabV] at hv4 hl4 ⊢))
  have kS4 := ((kS.to hb2).to hb3).to hb4
  have kR4 := ((kR.to hb2).to hb3).to hb4
  have hB4 := bnext (bnext (bnext hB1 hb2) hb3) hb4
  have hs2 : w.heap.size + 1 + 1 < w4.heap.size := kR4.lt
  have hs3 : w.heap.size + 1 + 1 < w3.heap.size := ((kR.to hb2).to hb3).lt
  have hls4 : w.heap.size ≤ w3.heap.size := (bnext (bnext hB1 hb2) hb3).size
  have kT := Bk.new w4 #[.int .i64 r', .slice A4 ls'.length c4, .slice B4 es'.length d4] 26
  have hcT := balloc (Below.refl _ w4) (.cells #[.int .i64 r', .slice A4 ls'.length c4, .slice B4 es'.length d4] 26)
  generalize hw5 : w4.alloc (.cells #[.int .i64 r', .slice A4 ls'.length c4, .slice B4 es'.length d4] 26) = w5 at *
  have hv5 := hv4.to hcT
  have kS5 := kS4.to hcT
  have kR5 := kR4.to hcT
  have hB5 := bnext hB4 hcT
  have hA5 := hA.below hB5 (Nat.le_refl _)
  have s0 := kS5.cell 0
  have t0 := kT.cell 0
  have t1 := kT.cell 1
  have t2 := kT.cell 2
  simp at s0 t0 t1 t2
  have hs5 : w4.heap.size < w5.heap.size := kT.lt
  have hs34 : w3.heap.size ≤ w4.heap.size := hb4.size
  clear hw5 kS kE kR kS4 kR4 kS5 hcT hb4 hb3 hb2 hB1 hv hv4 hB4 HC HP Hm HPG kT
  go_region_held3 (fun w' => w'.cell? ⟨w.heap.size, 0, none⟩ = some (.slice A rs.length c) ∧ w'.cell? ⟨w4.heap.size, 0, none⟩ = some (.int .i64 r') ∧ w'.cell? ⟨w4.heap.size, 1, none⟩ = some (.slice A4 ls'.length c4) ∧ w'.cell? ⟨w4.heap.size, 2, none⟩ = some (.slice B4 es'.length d4))
    (refine ⟨?_, ?_, ?_, ?_⟩ <;> (repeat (with_reducible first | exact s0 | exact t0 | exact t1 | exact t2 | refine cell_drew ?_ | refine cell_later hbI ?_ | refine cell_alloc _ ?_ | refine cell_far ?_ (by show _ ≠ _; simp only; omega) _)))
    (first
      | (go_at_call 52
         refine (cloneR_sp A rs.length c rs _ (by repeat (with_reducible first | exact hA5 | refine Rd.drew1 ?_ | refine Rd.alloc ?_ _)) hn).mono ?_
         rintro e wI ⟨vI, rfl, hoI, hbI⟩
         obtain ⟨AI, cI, rfl, hrI⟩ := own_slice hoI
         have hlI := own_loc hoI
         have hsI : w5.heap.size ≤ wI.heap.size := Nat.le_trans (by (try simp only [World.size_alloc, World.size_drew]); omega) hbI.size
         have kRI : Bk wI (w.heap.size + 1 + 1) #[.slice none 0 0, .int .i64 0, .slice none 0 0, .slice none 0 0] 28 := by repeat (with_reducible first | exact kR5 | refine Bk.to ?_ hbI | refine Bk.drew ?_ | refine Bk.alloc ?_ _)
         obtain ⟨cRI, fRI, lRI⟩ := kRI.facts))
  all_goals
    have hBI : Below w.heap.size w wI := by repeat (with_reducible first | exact hB5 | refine bnext ?_ hbI | refine below_drew ?_ | refine balloc ?_ _)
    have hvI : TbV wI (.agg #[.int .i64 r', .slice A4 ls'.length c4, .slice B4 es'.length d4]) (r', ls', es') := by repeat (with_reducible first | exact hv5 | refine TbV.to ?_ hbI | refine TbV.drew ?_ | refine TbV.alloc ?_ _)
    have hlI2 : ∀ b off, 0 < rs.length → AI = some ⟨b, off, none⟩ → w5.heap.size ≤ b := fun b off h0 he => Nat.le_trans (by (try simp only [World.size_alloc, World.size_drew]); omega) (hlI b off h0 he)
    have hsp := spv_mk (c := cI) hrI hvI
    obtain ⟨l4, l5⟩ := hl4 _ _ _ _ _ _ _ rfl
    have hsl : SLoc w3.heap.size (.agg #[.slice AI rs.length cI, .int .i64 r', .slice A4 ls'.length c4, .slice B4 es'.length d4]) := SLoc.mk (fun b off h0 he => by have := hlI2 b off h0 he; omega) l4 l5
    have kF := kRI.put4 (.slice AI rs.length cI) (.int .i64 r') (.slice A4 ls'.length c4) (.slice B4 es'.length d4)
    have hBF := below_put4 hBI (g := w.heap.size + 1 + 1) (by omega) (.slice AI rs.length cI) (.int .i64 r') (.slice A4 ls'.length c4) (.slice B4 es'.length d4)
    have hvF := spv_put4 hsp hsl hs3 (.slice AI rs.length cI) (.int .i64 r') (.slice A4 ls'.length c4) (.slice B4 es'.length d4)
    go_wp2_with fail
    exact bodyPost_ret (kF.res2 (P := Tryz.prog) rfl _ rfl (by kernel_rfl) (by kernel_rfl)) rfl ⟨_, rfl, hvF, hsl.mono hls4, hBF⟩
end Go.Proofs.YtpkgfkhaiifooaaGreatDoor
