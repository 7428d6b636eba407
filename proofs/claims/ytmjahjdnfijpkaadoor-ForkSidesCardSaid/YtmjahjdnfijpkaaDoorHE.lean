/- Several texts in one. -/
import Derived.Test.YtmjahjdnfijpkaaDoorFkA
import Derived.Test.YtmjahjdnfijpkaaDoorMadeP
import Derived.Test.YtmjahjdnfijpkaaDoorHK
/- Forks: plain laws on words that keep their kinds and numbers. -/
namespace Go.Proofs.YtmjahjdnfijpkaaDoor
open Go Go.Proofs Go.RowKit
set_option linter.unusedSimpArgs false
set_option linter.unusedVariables false

theorem wrd_unp (x : Nat) (h : unpE x = 0) (hk : unpK x = 1) (a b c : Bool) (hab : a ≠ b) : unpE (packN 1 (unpR x).1.2.1.toNat a b c) = 0 ∧ unpR (packN 1 (unpR x).1.2.1.toNat a b c) = ((1, (unpR x).1.2.1, a, b, c), 0) ∧ packN 1 (unpR x).1.2.1.toNat a b c < 65536 := by
  have hc := unpR_ok x (by rw [unpR_ok0 x h])
  generalize (unpR x).1 = e at *
  obtain ⟨k, n, a', b', c'⟩ := e
  simp only at hc ⊢
  obtain ⟨_, h0, h1⟩ := chk_ok _ _ _ _ _ hc
  obtain ⟨m, rfl⟩ : ∃ m : Nat, n = m := ⟨n.toNat, by omega⟩
  rw [Int.toNat_natCast]
  have c1 := chk_pr (m : Int) a b c h0 h1 hab
  have u1 := unp_pack 1 m a b c c1
  refine ⟨Classical.byContradiction fun h2 => ?_, u1, packN_lt _ _ _ _ _ c1⟩
  rw [unpR_bad _ h2] at u1
  injection u1 with _ u2
  exact h2 u2
theorem unp_flags (x : Nat) (h : unpE x = 0) (hk : unpK x ≠ 1) : (unpR x).1.2.2.1 = false ∧ (unpR x).1.2.2.2.1 = false := by
  have hc := unpR_ok x (by rw [unpR_ok0 x h])
  unfold unpK at hk
  generalize (unpR x).1 = e at *
  obtain ⟨k, n, a, b, c⟩ := e
  simp only at hc hk ⊢
  unfold chk at hc
  split at hc
  · omega
  · split at hc
    · omega
    · split at hc
      · omega
      · rename_i h1 h2 h3
        simp only [not_or, Bool.not_eq_true] at h3
        exact ⟨h3.1, h3.2.1⟩
/-- A change of words that keeps kinds and numbers. -/
def KpW (f : Nat → Nat) : Prop := ∀ x, unpE x = 0 → unpE (f x) = 0 ∧ (unpR (f x)).1.1 = (unpR x).1.1 ∧ (unpR (f x)).1.2.1 = (unpR x).1.2.1 ∧ (f x = x ∨ f x < 65536)
theorem kpw_of (f : Nat → Nat) (g : Nat → Prop) (a b : Bool) (c : Nat → Bool) (hab : a ≠ b) (h1 : ∀ x, g x → unpK x = 1 ∧ f x = packN 1 (unpR x).1.2.1.toNat a b (c x)) (h2 : ∀ x, ¬ g x → f x = x) : KpW f := fun x hx => by
  by_cases hg : g x
  · obtain ⟨hk, e⟩ := h1 x hg
    obtain ⟨q1, q2, q3⟩ := wrd_unp x hx hk a b (c x) hab
    rw [e]
    refine ⟨q1, ?_, by rw [q2], .inr q3⟩
    rw [q2]
    exact hk.symm
  · rw [h2 x hg]
    exact ⟨hx, rfl, rfl, .inl rfl⟩
theorem parW_kp : KpW parW := kpw_of parW (fun x => unpK x = 1) false true (fun x => (unpR x).1.2.2.2.2) (by decide) (fun x h => ⟨h, by unfold parW; rw [if_pos h]⟩) (fun x h => by unfold parW; rw [if_neg h])
theorem chiW_kp : KpW chiW := kpw_of chiW (fun x => unpK x = 1) false true (fun x => false) (by decide) (fun x h => ⟨h, by unfold chiW; rw [if_pos h]⟩) (fun x h => by unfold chiW; rw [if_neg h])
theorem fowB_one {cs : List Int} {x : Nat} (h : fowB cs x = true) : unpK x = 1 := by
  unfold fowB at h
  simp only [Bool.and_eq_true, decide_eq_true_eq] at h
  exact h.1
theorem fowW_kp (cs : List Int) : KpW (fowW cs) := kpw_of (fowW cs) (fun x => fowB cs x = true) true false (fun x => (unpR x).1.2.2.2.2) (by decide) (fun x h => ⟨fowB_one h, by unfold fowW; rw [if_pos h]⟩) (fun x h => by unfold fowW; rw [if_neg h])
theorem parW_nw (x : Nat) (h : unpE x = 0) : (unpR (parW x)).1.2.2.1 = false := by
  by_cases hk : unpK x = 1
  · unfold parW
    rw [if_pos hk, (wrd_unp x h hk _ _ _ (by decide)).2.1]
  · unfold parW
    rw [if_neg hk]
    exact (unp_flags x h hk).1
theorem chiW_nw (x : Nat) (h : unpE x = 0) : (unpR (chiW x)).1.2.2.1 = false := by
  by_cases hk : unpK x = 1
  · unfold chiW
    rw [if_pos hk, (wrd_unp x h hk _ _ _ (by decide)).2.1]
  · unfold chiW
    rw [if_neg hk]
    exact (unp_flags x h hk).1
theorem map_getD0 (f : Nat → Nat) (es : List Nat) {p : Nat} (hp : p < es.length) : (es.map f).getD p 0 = f (es.getD p 0) := by
  rw [List.getD_eq_getElem?_getD, List.getD_eq_getElem?_getD, List.getElem?_map, List.getElem?_eq_getElem hp]
  rfl
theorem mod4_of {x y : Nat} (hx : unpE x = 0) (hy : unpE y = 0) (h : (unpR y).1.1 = (unpR x).1.1) : y % 4 = x % 4 := by
  have h1 := unpK_eq x hx
  have h2 := unpK_eq y hy
  unfold unpK at h1 h2
  omega
theorem wsmall_map {f : Nat → Nat} (hf : KpW f) {r : Int} {ls : List Int} {es : List Nat} (hT : tabE r ls es = 0) (hs : wsmall es) : wsmall (es.map f) := by
  obtain ⟨_, h64, _, _, _, _, h7, _⟩ := tab_zero hT
  intro y hy
  obtain ⟨x, hx, rfl⟩ := List.mem_map.1 hy
  obtain ⟨p, hp, e⟩ := List.mem_iff_getElem.1 hx
  have h0 := h7 p (by omega)
  rw [List.getD_eq_getElem?_getD, List.getElem?_eq_getElem hp] at h0
  have h0' : unpE x = 0 := by rw [← e]; exact h0
  have := hs x hx
  rcases (hf x h0').2.2.2 with h | h <;> omega
/-- Spaces with the same regions, kinds and numbers. -/
def Alike (a b : Sp) : Prop := a.1 = b.1 ∧ ∀ p, p < 64 → (entP a.2.2.2 p).1 = (entP b.2.2.2 p).1 ∧ (entP a.2.2.2 p).2.1 = (entP b.2.2.2 p).2.1
theorem Alike.symm {a b : Sp} (h : Alike a b) : Alike b a := ⟨h.1.symm, fun p hp => ⟨(h.2 p hp).1.symm, (h.2 p hp).2.symm⟩⟩
theorem Alike.trans {a b c : Sp} (h : Alike a b) (k : Alike b c) : Alike a c := ⟨h.1.trans k.1, fun p hp => ⟨(h.2 p hp).1.trans (k.2 p hp).1, (h.2 p hp).2.trans (k.2 p hp).2⟩⟩
theorem Alike.refl (a : Sp) : Alike a a := ⟨rfl, fun _ _ => ⟨rfl, rfl⟩⟩
theorem ent_map {f : Nat → Nat} (hf : KpW f) {r : Int} {ls : List Int} {es : List Nat} (hT : tabE r ls es = 0) {p : Nat} (hp : p < 64) : (entP (es.map f) p).1 = (entP es p).1 ∧ (entP (es.map f) p).2.1 = (entP es p).2.1 := by
  obtain ⟨_, h64, _, _, _, _, h7, _⟩ := tab_zero hT
  unfold entP
  rw [map_getD0 f es (by omega)]
  obtain ⟨_, h1, h2, _⟩ := hf _ (h7 p hp)
  exact ⟨h1, h2⟩
theorem difL_alike {a b : Sp} (h : Alike a b) : difL a b 64 = [] := by
  unfold difL
  rw [List.map_eq_nil_iff, List.filter_eq_nil_iff]
  intro p hp
  obtain ⟨h1, h2⟩ := h.2 p (List.mem_range.1 hp)
  unfold difB
  rw [h.1, h1, h2]
  simp
theorem numL_alike {a b : Sp} (h : Alike a b) (kd : Int) : numL a.2.2.2 kd 64 = numL b.2.2.2 kd 64 := by
  unfold numL
  rw [List.filter_congr (q := fun p => decide ((entP b.2.2.2 p).1 = kd)) (fun p hp => by rw [(h.2 p (List.mem_range.1 hp)).1])]
  apply List.map_congr_left
  intro p hp
  exact (h.2 p (List.mem_range.1 (List.mem_filter.1 hp).1)).2
theorem tab_map {f : Nat → Nat} (hf : KpW f) {r : Int} {ls : List Int} {es : List Nat} (hT : tabE r ls es = 0) : tabE r ls (es.map f) = 0 := by
  obtain ⟨h1, h2, h3, h4, h5, h6, h7, h8⟩ := tab_zero hT
  refine tab_intro h1 (by rw [List.length_map]; exact h2) h3 h4 h5 h6 (fun p hp => ?_) (fun p hp => ?_)
  · rw [map_getD0 f es (by omega)]
    exact (hf _ (h7 p hp)).1
  · rw [map_getD0 f es (by omega)]
    obtain ⟨q1, q2, q3, _⟩ := hf _ (h7 p hp)
    rw [mod4_of (h7 p hp) q1 q2]
    exact h8 p hp
theorem out_alike {a b : Sp} (h : Alike a b) {p : Nat} (hp : p < 64) (ha : outE a.1 a.2.2.2 p = 0) : outE b.1 b.2.2.2 p = 0 := by
  have h1 := (h.2 p hp).1
  unfold outE unpK at ha ⊢
  unfold entP at h1
  rw [← h.1, ← h1]
  exact ha
theorem par_valid {s : Sp} (h : spcE s = 0) : spcE (parS s) = 0 ∧ Alike s (parS s) := by
  obtain ⟨h1, h2, h3⟩ := spc_zero h
  have hA : Alike s (parS s) := ⟨rfl, fun p hp => by obtain ⟨q1, q2⟩ := ent_map parW_kp h2 hp; exact ⟨q1.symm, q2.symm⟩⟩
  exact ⟨spc_ok h1 (tab_map parW_kp h2) (fun p hp => out_alike hA hp (h3 p hp)), hA⟩
theorem for_zero {s : Sp} {fr : List Int} (h : forE s fr = 0) : rooE s = 0 ∧ FrOk fr s.2.2.1 ∧ ∀ i, i < fr.length → usedB s (fr.getD i 0) = false := by
  obtain ⟨hR, hE2⟩ := orE_zero h
  obtain ⟨hc, hfit⟩ := orE_zero hE2
  have hc : fr.length = neeN s.2.2.1 := by
    refine Classical.byContradiction fun h => ?_
    rw [if_neg h] at hc
    exact absurd hc (by decide)
  exact ⟨hR, fit_ok hfit hc⟩
theorem chi_valid {s : Sp} {fr : List Int} (h : spcE s = 0) (hf : FrOk fr s.2.2.1) : spcE (chiS s fr) = 0 ∧ Alike s (chiS s fr) := by
  obtain ⟨h1, h2, h3⟩ := spc_zero h
  have hA : Alike s (chiS s fr) := ⟨rfl, fun p hp => by obtain ⟨q1, q2⟩ := ent_map chiW_kp h2 hp; exact ⟨q1.symm, q2.symm⟩⟩
  refine ⟨spc_ok h1 ?_ (fun p hp => out_alike hA hp (h3 p hp)), hA⟩
  obtain ⟨t1, t2, t3, t4, t5, t6, t7, t8⟩ := tab_zero h2
  unfold chiS
  simp only
  rw [← chP_all]
  refine chP_tab t1 hf 8 (by rw [List.length_map]; exact t2) (fun p hp => ?_) (fun p hp => ?_)
  · rw [map_getD0 chiW _ (by omega)]
    exact (chiW_kp _ (t7 p hp)).1
  · rw [map_getD0 chiW _ (by omega), chP_at _ _ _ (by omega), if_pos (by omega)]
    obtain ⟨q1, q2, q3, _⟩ := chiW_kp _ (t7 p hp)
    rw [mod4_of (t7 p hp) q1 q2]
    rw [chiA_neg t1 hf (j := p / 8) (by omega)]
    exact t8 p hp
/-- The frames that the statements take: the first, and one for each leaf. -/
def frsL (z : Int) (ls : List Int) (n : Nat) : List Int := z :: ((List.range n).filter fun i => decide (0 ≤ ls.getD i 0)).map fun i : Nat => z + 1 + (i : Int)
theorem frs_succ (z : Int) (ls : List Int) (n : Nat) : frsL z ls (n + 1) = frsL z ls n ++ if 0 ≤ ls.getD n 0 then [z + 1 + (n : Int)] else [] := by
  unfold frsL
  rw [List.range_succ, List.filter_append, List.map_append]
  by_cases h : 0 ≤ ls.getD n 0
  · rw [if_pos h, List.filter_cons_of_pos (by exact decide_eq_true h)]
    rfl
  · rw [if_neg h, List.filter_cons_of_neg (by simpa using h)]
    simp
theorem frs_rng {z : Int} {ls : List Int} : ∀ {n : Nat} {f : Int}, f ∈ frsL z ls n → z ≤ f ∧ f ≤ z + n
  | n, f, h => by
    unfold frsL at h
    rcases List.mem_cons.1 h with rfl | h
    · omega
    · obtain ⟨i, hi, rfl⟩ := List.mem_map.1 h
      have := List.mem_range.1 (List.mem_filter.1 hi).1
      omega
theorem frs_len {z : Int} {ls : List Int} (h8 : ls.length = 8) (h4 : ∀ i, i < 8 → -1 ≤ ls.getD i 0) : ∀ n : Nat, n ≤ 8 → (frsL z ls n).length = 1 + (frmL ls n).length
  | 0, _ => rfl
  | n + 1, h => by
    rw [frs_succ, List.length_append, frs_len h8 h4 n (by omega), cnt_succ ls h8 n (by omega)]
    have := h4 n (by omega)
    by_cases h0 : ls.getD n 0 = -1
    · rw [if_pos h0, if_neg (by omega)]
      rfl
    · rw [if_neg h0, if_pos (by omega)]
      simp
      omega
theorem frs_nodup (z : Int) (ls : List Int) : ∀ n : Nat, (frsL z ls n).Nodup
  | 0 => by unfold frsL; simp
  | n + 1 => by
    rw [frs_succ]
    split
    · refine List.nodup_append.2 ⟨frs_nodup z ls n, by simp, fun a ha b hb => ?_⟩
      obtain rfl := List.mem_singleton.1 hb
      have := frs_rng ha
      omega
    · rw [List.append_nil]
      exact frs_nodup z ls n
theorem nodup_take {l : List Int} (h : l.Nodup) {i : Nat} (hi : i < l.length) : l.getD i 0 ∉ l.take i := fun hm => by
  obtain ⟨j, hj, e⟩ := List.mem_iff_getElem.1 hm
  rw [List.length_take] at hj
  rw [List.getElem_take, List.getD_eq_getElem?_getD, List.getElem?_eq_getElem hi] at e
  simp only [Option.getD_some] at e
  exact (List.pairwise_iff_getElem.1 h) j i (by omega) hi (by omega) e
theorem getD_mem {l : List Int} {i : Nat} (hi : i < l.length) : l.getD i 0 ∈ l := by
  rw [List.getD_eq_getElem?_getD, List.getElem?_eq_getElem hi]
  exact List.getElem_mem hi
/-- Such frames fit if nobody uses them. -/
theorem frs_fit {s : Sp} {z : Int} (hE : spcE s = 0) (hr : s.2.1 ≠ -1) (h0 : 0 ≤ z) (h1 : z + 8 ≤ 255) (hu : ∀ f, z ≤ f → f ≤ z + 8 → usedB s f = false) : forE s (frsL z s.2.2.1 8) = 0 := by
  obtain ⟨_, h2, _⟩ := spc_zero hE
  obtain ⟨t1, t2, t3, t4, _⟩ := tab_zero h2
  have hl := frs_len (z := z) t1 (fun i hi => (t4 i hi).1) 8 (by omega)
  unfold forE rooE
  rw [orE_r _ (by rw [orE_r _ hE, if_neg hr]), orE_r _ (if_pos (show _ = neeN s.2.2.1 from hl))]
  refine (fst0_zero _ _).2 fun i hi => ?_
  have hm := frs_rng (getD_mem hi)
  unfold fitF
  rw [if_neg (by omega), if_neg]
  rintro (h | h)
  · rw [hu _ hm.1 hm.2] at h
    cases h
  · exact nodup_take (frs_nodup z s.2.2.1 8) hi h
/-- An address space as Made makes it. -/
structure MdS (s : Sp) (z : Int) : Prop where
  ok : spcE s = 0
  sm : wsmall s.2.2.2
  rt : z ≤ s.2.1 ∧ s.2.1 ≤ z + 8
  lf : ∀ f, f ∈ frmL s.2.2.1 8 → z ≤ f ∧ f ≤ z + 8
  nm : ∀ p, p < 64 → (entP s.2.2.2 p).1 = 1 → 20 ≤ (entP s.2.2.2 p).2.1 ∧ (entP s.2.2.2 p).2.1 ≤ 39
theorem MdS.used {s : Sp} {z : Int} (h : MdS s z) {f : Int} (h1 : f < z ∨ z + 8 < f) (h2 : f < 20 ∨ 39 < f) : usedB s f = false := by
  unfold usedB
  have e1 : decide (f = s.2.1) = false := decide_eq_false (by have := h.rt; omega)
  have e2 : decide (f ∈ frmL s.2.2.1 8) = false := decide_eq_false (fun hm => by have := h.lf f hm; omega)
  rw [e1, e2, Bool.false_or, Bool.false_or]
  unfold preB
  rw [List.any_eq_false]
  intro p hp hh
  simp only [Bool.and_eq_true, decide_eq_true_eq] at hh
  have := h.nm p (List.mem_range.1 hp) hh.1
  omega
theorem MdS.frames {s : Sp} {z y : Int} (h : MdS s z) (hz : 0 ≤ z) (hy : 40 ≤ y) (hy2 : z + 8 < y) (h1 : y + 8 ≤ 255) : forE s (frsL y s.2.2.1 8) = 0 :=
  frs_fit h.ok (by have := h.rt; omega) (by omega) h1 (fun f h2 h3 => h.used (by omega) (by omega))
theorem nm_alike {a b : Sp} (h : Alike a b) (hn : ∀ p, p < 64 → (entP a.2.2.2 p).1 = 1 → 20 ≤ (entP a.2.2.2 p).2.1 ∧ (entP a.2.2.2 p).2.1 ≤ 39) : ∀ p, p < 64 → (entP b.2.2.2 p).1 = 1 → 20 ≤ (entP b.2.2.2 p).2.1 ∧ (entP b.2.2.2 p).2.1 ≤ 39 := fun p hp hk => by
  obtain ⟨e1, e2⟩ := h.2 p hp
  rw [← e1] at hk
  rw [← e2]
  exact hn p hp hk
theorem MdS.child {s : Sp} {z y : Int} (h : MdS s z) (hz : 0 ≤ z) (hy : 40 ≤ y) (hy2 : z + 8 < y) (h1 : y + 8 ≤ 255) : MdS (chiS s (frsL y s.2.2.1 8)) y := by
  have hF := h.frames hz hy hy2 h1
  obtain ⟨_, hok, _⟩ := for_zero hF
  obtain ⟨hv, hA⟩ := chi_valid h.ok hok
  obtain ⟨_, hT, _⟩ := spc_zero h.ok
  have t1 := (tab_zero hT).1
  refine ⟨hv, wsmall_map chiW_kp hT h.sm, ⟨by show y ≤ y; omega, by show y ≤ y + 8; omega⟩, fun f hf => ?_, nm_alike hA h.nm⟩
  have hm : f ∈ chiL (frsL y s.2.2.1 8) s.2.2.1 ∧ f ≠ -1 := by
    have := List.mem_filter.1 hf
    exact ⟨List.mem_of_mem_take this.1, by simpa using this.2⟩
  unfold chiL at hm
  obtain ⟨⟨j, hj, rfl⟩, hne⟩ := (show (∃ j, j ∈ List.range 8 ∧ chiA (frsL y s.2.2.1 8) s.2.2.1 j = f) ∧ f ≠ -1 from ⟨List.mem_map.1 hm.1, hm.2⟩)
  have hj8 := List.mem_range.1 hj
  obtain ⟨e, hlt⟩ := chiA_idx t1 hok hj8 (fun hh => hne ((chiA_neg t1 hok hj8).2 hh))
  rw [e]
  exact frs_rng (getD_mem hlt)
end Go.Proofs.YtmjahjdnfijpkaaDoor
/- Forks: plain laws on counts, and on what is one's own again. -/
namespace Go.Proofs.YtmjahjdnfijpkaaDoor
open Go Go.Proofs Go.RowKit
set_option linter.unusedSimpArgs false
set_option linter.unusedVariables false

theorem bump_len (c : List Int) (x : Int) : (bump c x).length = c.length := by unfold bump; rw [List.length_set]
theorem bumps_len (l : List Int) : ∀ c : List Int, (l.foldl bump c).length = c.length := by
  induction l with
  | nil => intro c; rfl
  | cons x l ih => intro c; rw [List.foldl_cons, ih, bump_len]
theorem bump_at {c : List Int} {x : Int} (h0 : 0 ≤ x) (h1 : x < c.length) (f : Nat) : (bump c x).getD f 0 = c.getD f 0 + if x = f then 1 else 0 := by
  unfold bump
  rw [List.getD_eq_getElem?_getD, List.getElem?_set]
  by_cases h : x = f
  · have hf : x.toNat = f := by omega
    rw [if_pos hf, if_pos h, if_pos (by omega), hf]
    rfl
  · rw [if_neg (by omega), if_neg h, Int.add_zero, List.getD_eq_getElem?_getD]
theorem bumps_at (l : List Int) : ∀ c : List Int, (∀ x ∈ l, 0 ≤ x ∧ x < c.length) → ∀ f : Nat, (l.foldl bump c).getD f 0 = c.getD f 0 + (l.count (f : Int) : Nat) := by
  induction l with
  | nil => intro c _ f; simp
  | cons x l ih =>
    intro c h f
    have hx := h x (List.mem_cons_self ..)
    rw [List.foldl_cons, ih _ (fun y hy => by rw [bump_len]; exact h y (List.mem_cons_of_mem _ hy)), bump_at hx.1 hx.2, List.count_cons]
    by_cases hf : x = f
    · rw [if_pos hf]
      simp [hf]
      omega
    · rw [if_neg hf]
      have : (x == (f : Int)) = false := by simpa using hf
      simp [this]
theorem zer_at (f : Nat) : zer.getD f 0 = 0 := by
  unfold zer
  rw [List.getD_eq_getElem?_getD, List.getElem?_replicate]
  split <;> rfl
theorem zer_len : zer.length = 256 := List.length_replicate
theorem cou_one (s : Sp) : couL [s] 1 = (numL s.2.2.2 1 64).foldl bump zer := by simp [couL]
theorem cou_two (a b : Sp) : couL [a, b] 2 = (numL b.2.2.2 1 64).foldl bump ((numL a.2.2.2 1 64).foldl bump zer) := by simp [couL, List.foldl_append]
theorem cou_len (l : List Sp) (k : Nat) : (couL l k).length = 256 := by unfold couL; rw [bumps_len, zer_len]
theorem num_rng {s : Sp} (h : spcE s = 0) : ∀ x ∈ numL s.2.2.2 1 64, 0 ≤ x ∧ x < 256 := fun x hx => by
  obtain ⟨_, hT, _⟩ := spc_zero h
  unfold numL at hx
  obtain ⟨p, hp, rfl⟩ := List.mem_map.1 hx
  have hp2 := List.mem_range.1 (List.mem_filter.1 hp).1
  have h7 := (tab_zero hT).2.2.2.2.2.2.1 p hp2
  have hc := unpR_ok _ (by rw [unpR_ok0 _ h7])
  obtain ⟨_, h0, h1⟩ := chk_ok _ _ _ _ _ hc
  unfold entP
  omega
theorem num_mem {es : List Nat} {p : Nat} (hp : p < 64) (hk : (entP es p).1 = 1) : (entP es p).2.1 ∈ numL es 1 64 := by
  unfold numL
  exact List.mem_map.2 ⟨p, List.mem_filter.2 ⟨List.mem_range.2 hp, by simpa using hk⟩, rfl⟩
theorem couE_one {s : Sp} (h : spcE s = 0) : couE [s] = 0 := by
  unfold couE
  rw [if_neg (by simp)]
  exact (fst0_zero _ _).2 fun i hi => by
    obtain rfl : i = 0 := by simpa using hi
    exact h
theorem couE_two {a b : Sp} (h : spcE a = 0) (h2 : spcE b = 0) : couE [a, b] = 0 := by
  unfold couE
  rw [if_neg (by simp)]
  exact (fst0_zero _ _).2 fun i hi => by
    rcases i with _ | _ | i
    · exact h
    · exact h2
    · simp at hi
      omega
theorem neg_no {cs : List Int} (h : ∀ f : Nat, 0 ≤ cs.getD f 0) : ¬ ∃ x ∈ cs, x < 0 := fun ⟨x, hx, hn⟩ => by
  obtain ⟨j, hj, e⟩ := List.mem_iff_getElem.1 hx
  have := h j
  rw [List.getD_eq_getElem?_getD, List.getElem?_eq_getElem hj] at this
  simp only [Option.getD_some] at this
  omega
theorem fowE_zero {s : Sp} {cs : List Int} (h : spcE s = 0) (hl : cs.length = 256) (hn : ∀ f : Nat, 0 ≤ cs.getD f 0) : fowE s cs = 0 := by
  unfold fowE
  rw [orE_r _ h, if_neg]
  rintro (h1 | h1)
  · exact h1 hl
  · exact neg_no hn h1
theorem map_id_of {f : Nat → Nat} {es : List Nat} (h : ∀ p, p < es.length → f (es.getD p 0) = es.getD p 0) : es.map f = es := by
  apply List.ext_getElem?
  intro i
  rw [List.getElem?_map]
  by_cases hi : i < es.length
  · have := h i hi
    rw [List.getD_eq_getElem?_getD, List.getElem?_eq_getElem hi] at this
    rw [List.getElem?_eq_getElem hi]
    exact congrArg some this
  · rw [List.getElem?_eq_none (by omega)]
    rfl
/-- Nothing is given back where no entry is one's own alone. -/
theorem fow_none {s : Sp} {cs : List Int} (hE : fowE s cs = 0) (h : ∀ p, p < 64 → fowB cs (s.2.2.2.getD p 0) = false) : fowR s cs = (s, 0, 0) := by
  obtain ⟨hs, _⟩ := orE_zero hE
  obtain ⟨_, hT, _⟩ := spc_zero hs
  have h64 := (tab_zero hT).2.1
  obtain ⟨rs, r, ls, es⟩ := s
  simp only at h h64
  unfold fowR
  rw [if_neg (by omega)]
  simp only
  rw [map_id_of (fun p hp => by unfold fowW; rw [if_neg (by rw [h p (by omega)]; decide)])]
  have : fowN es cs 64 = 0 := by
    unfold fowN
    rw [List.filter_eq_nil_iff.2 (fun p hp => by rw [h p (List.mem_range.1 hp)]; decide)]
    rfl
  rw [this]
  rfl
/-- Different pages have different frames. -/
def NumD (es : List Nat) : Prop := ∀ p q, p < 64 → q < 64 → p ≠ q → (entP es p).1 = 1 → (entP es q).1 = 1 → (entP es p).2.1 ≠ (entP es q).2.1
theorem num_nodup {es : List Nat} (h : NumD es) : (numL es 1 64).Nodup := by
  unfold numL
  refine List.Pairwise.map _ (R := fun p q : Nat => p < 64 ∧ q < 64 ∧ p ≠ q ∧ (entP es p).1 = 1 ∧ (entP es q).1 = 1) (fun a b ⟨h1, h2, h3, h4, h5⟩ => h a b h1 h2 h3 h4 h5) ?_
  have hn : ((List.range 64).filter fun p => decide ((entP es p).1 = 1)).Nodup := List.Pairwise.filter _ List.nodup_range
  refine List.Pairwise.imp_of_mem (fun {a b} ha hb hne => ?_) hn
  have h1 := List.mem_filter.1 ha
  have h2 := List.mem_filter.1 hb
  exact ⟨List.mem_range.1 h1.1, List.mem_range.1 h2.1, hne, by simpa using h1.2, by simpa using h2.2⟩
section
variable {s : Sp} {cs : List Int}
/-- The entries of the parent are shared ones. -/
theorem par_fowB (h : spcE s = 0) {p : Nat} (hp : p < 64) : fowB cs ((parS s).2.2.2.getD p 0) = (decide ((entP s.2.2.2 p).1 = 1) && decide (cs.getD (entP s.2.2.2 p).2.1.toNat 0 ≤ 1)) := by
  obtain ⟨_, hT, _⟩ := spc_zero h
  obtain ⟨_, h64, _, _, _, _, h7, _⟩ := tab_zero hT
  have hx := h7 p hp
  unfold parS entP
  simp only
  rw [map_getD0 parW _ (by omega)]
  generalize s.2.2.2.getD p 0 = x at *
  by_cases hk : unpK x = 1
  · have e : parW x = packN 1 (unpR x).1.2.1.toNat false true (unpR x).1.2.2.2.2 := by unfold parW; rw [if_pos hk]
    obtain ⟨q1, q2, q3⟩ := wrd_unp x hx hk false true (unpR x).1.2.2.2.2 (by decide)
    rw [e]
    unfold fowB unpK
    rw [q2]
    unfold unpK at hk
    simp [hk]
  · have e : parW x = x := by unfold parW; rw [if_neg hk]
    rw [e]
    unfold fowB
    rw [decide_eq_false hk]
    unfold unpK at hk
    rw [decide_eq_false hk]
    rfl
end
/-- Twice in the counts: nothing is given back. -/
theorem own_both {s b : Sp} (h : spcE s = 0) (hA : Alike s b) : fowR (parS s) (couL [parS s, b] 2) = (parS s, 0, 0) := by
  obtain ⟨hv, hP⟩ := par_valid h
  have hr := num_rng h
  have e1 := numL_alike hP 1
  have e2 := numL_alike hA 1
  have hat : ∀ f : Nat, (couL [parS s, b] 2).getD f 0 = ((numL s.2.2.2 1 64).count (f : Int) : Nat) + ((numL s.2.2.2 1 64).count (f : Int) : Nat) := fun f => by
    rw [cou_two, ← e1, ← e2, bumps_at _ _ (fun x hx => by rw [bumps_len, zer_len]; exact hr x hx), bumps_at _ _ (fun x hx => by rw [zer_len]; exact hr x hx), zer_at]
    omega
  refine fow_none (fowE_zero hv (cou_len _ _) (fun f => by rw [hat]; omega)) (fun p hp => ?_)
  rw [par_fowB h hp]
  by_cases hk : (entP s.2.2.2 p).1 = 1
  · have hm := num_mem hp hk
    have h1 := hr _ hm
    have hc : 0 < (numL s.2.2.2 1 64).count (entP s.2.2.2 p).2.1 := List.count_pos_iff.2 hm
    have hf := hat (entP s.2.2.2 p).2.1.toNat
    rw [show (((entP s.2.2.2 p).2.1.toNat : Nat) : Int) = (entP s.2.2.2 p).2.1 by omega] at hf
    rw [hf, decide_eq_false (show ¬ (((numL s.2.2.2 1 64).count (entP s.2.2.2 p).2.1 : Nat) : Int) + ((numL s.2.2.2 1 64).count (entP s.2.2.2 p).2.1 : Nat) ≤ 1 by omega), Bool.and_false]
  · rw [decide_eq_false hk]
    rfl
/-- What the parent alone gets back. -/
theorem own_one {s : Sp} (h : spcE s = 0) (hD : NumD s.2.2.2) : ∃ back : Sp, fowR (parS s) (couL [parS s] 1) = (back, ((numL s.2.2.2 1 64).length : Int), 0) ∧ back.1 = s.1 ∧ back.2.1 = s.2.1 ∧ back.2.2.1 = s.2.2.1 ∧ spcE back = 0 ∧ (wsmall s.2.2.2 → wsmall back.2.2.2) ∧ fowR back (couL [parS s] 1) = (back, 0, 0) ∧ back.2.2.2.length = 64 ∧
    ∀ p, p < 64 → ∀ (k n : Int) (a b c : Bool), entP s.2.2.2 p = (k, n, a, b, c) → packR k n (if k = 1 then true else a) (if k = 1 then false else b) c = (((back.2.2.2.getD p 0 : Nat) : Int), 0) := by
  obtain ⟨hv, hP⟩ := par_valid h
  have hr := num_rng h
  have hnd := num_nodup hD
  have e1 := numL_alike hP 1
  have hat : ∀ f : Nat, (couL [parS s] 1).getD f 0 = ((numL s.2.2.2 1 64).count (f : Int) : Nat) := fun f => by
    rw [cou_one, ← e1, bumps_at _ _ (fun x hx => by rw [zer_len]; exact hr x hx), zer_at]
    omega
  have hle : ∀ f : Nat, (couL [parS s] 1).getD f 0 ≤ 1 := fun f => by
    have := List.nodup_iff_count.1 hnd (f : Int)
    rw [hat]
    omega
  have hge : ∀ f : Nat, 0 ≤ (couL [parS s] 1).getD f 0 := fun f => by rw [hat]; omega
  have hlen := cou_len [parS s] 1
  generalize couL [parS s] 1 = cs at *
  have hE := fowE_zero hv hlen hge
  obtain ⟨_, hT, _⟩ := spc_zero h
  obtain ⟨_, h64, _, _, _, _, h7, _⟩ := tab_zero hT
  obtain ⟨hv1, hT2, hv3⟩ := spc_zero hv
  have hB : ∀ p, p < 64 → fowB cs ((parS s).2.2.2.getD p 0) = decide ((entP s.2.2.2 p).1 = 1) := fun p hp => by
    rw [par_fowB h hp, decide_eq_true (hle _), Bool.and_true]
  have hp64 : (parS s).2.2.2.length = 64 := by unfold parS; simp only; rw [List.length_map]; exact h64
  have hAl : Alike (parS s) ((parS s).1, (parS s).2.1, (parS s).2.2.1, (parS s).2.2.2.map (fowW cs)) := ⟨rfl, fun p hp => by obtain ⟨q1, q2⟩ := ent_map (fowW_kp cs) hT2 hp; exact ⟨q1.symm, q2.symm⟩⟩
  have hbv : spcE ((parS s).1, (parS s).2.1, (parS s).2.2.1, (parS s).2.2.2.map (fowW cs)) = 0 := spc_ok hv1 (tab_map (fowW_kp cs) hT2) (fun p hp => out_alike hAl hp (hv3 p hp))
  have hN : fowN (parS s).2.2.2 cs 64 = (numL s.2.2.2 1 64).length := by
    unfold fowN numL
    rw [List.length_map, List.filter_congr (q := fun p => decide ((entP s.2.2.2 p).1 = 1)) (fun p hp => hB p (List.mem_range.1 hp))]
  have hw : ∀ p, p < 64 → (∀ (k n : Int) (a b c : Bool), entP s.2.2.2 p = (k, n, a, b, c) → packR k n (if k = 1 then true else a) (if k = 1 then false else b) c = (((((parS s).2.2.2.map (fowW cs)).getD p 0 : Nat) : Int), 0)) ∧ fowB cs (((parS s).2.2.2.map (fowW cs)).getD p 0) = false := fun p hp => by
    have hx := h7 p hp
    have hBp := hB p hp
    rw [map_getD0 (fowW cs) _ (by omega)]
    unfold fowW
    rw [hBp]
    unfold entP parS at *
    simp only at *
    rw [map_getD0 parW _ (by omega)] at hBp ⊢
    generalize s.2.2.2.getD p 0 = x at *
    by_cases hk : unpK x = 1
    · have e : parW x = packN 1 (unpR x).1.2.1.toNat false true (unpR x).1.2.2.2.2 := by unfold parW; rw [if_pos hk]
      obtain ⟨q1, q2, q3⟩ := wrd_unp x hx hk false true (unpR x).1.2.2.2.2 (by decide)
      obtain ⟨u1, u2, u3⟩ := wrd_unp x hx hk true false (unpR x).1.2.2.2.2 (by decide)
      rw [← e] at q2
      have hk' : (unpR x).1.1 = 1 := hk
      rw [if_pos (by rw [hk']; rfl), q2]
      simp only
      refine ⟨fun k n a b c he => ?_, ?_⟩
      · have hh := pack_unpN _ u1
        rw [u2] at hh
        rw [he] at hk' hh u1 u2
        simp only at hk' hh
        subst hk'
        rw [if_pos rfl, if_pos rfl]
        rw [he]
        exact hh
      · unfold fowB
        rw [u2]
        simp
    · have e : parW x = x := by unfold parW; rw [if_neg hk]
      have hk' : ¬ (unpR x).1.1 = 1 := hk
      rw [e] at hBp ⊢
      rw [if_neg (by rw [decide_eq_false hk']; decide)]
      refine ⟨fun k n a b c he => ?_, ?_⟩
      · have hh := pack_unpN _ hx
        rw [he] at hh hk'
        simp only at hh hk'
        rw [if_neg hk', if_neg hk']
        exact hh
      · rw [hBp]
        exact decide_eq_false hk'
  refine ⟨((parS s).1, (parS s).2.1, (parS s).2.2.1, (parS s).2.2.2.map (fowW cs)), ?_, rfl, rfl, rfl, hbv, fun hs => wsmall_map (fowW_kp cs) hT2 (wsmall_map parW_kp hT hs), fow_none (fowE_zero hbv hlen hge) (fun p hp => (hw p hp).2), by simp only; rw [List.length_map]; exact hp64, fun p hp => (hw p hp).1⟩
  unfold fowR
  rw [if_neg (by omega), hN]
end Go.Proofs.YtmjahjdnfijpkaaDoor
