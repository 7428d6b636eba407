/- Valid sharings as plain lists: what is valid, how counts change, and that the functions of package cow keep a sharing valid. No program in sight. -/
import Derived.Test.YtomndlnfidkdcaaDoorCow1
import Derived.Test.YtomndlnfidkdcaaDoorUnp
namespace Go.Proofs.YtomndlnfidkdcaaDoor
open Go
set_option linter.unusedSimpArgs false
set_option linter.unusedVariables false

def chkE (e : En5) : Int := chk e.1 e.2.1 e.2.2.1 e.2.2.2.1 e.2.2.2.2
theorem packE_val (e : En5) (h : chkE e = 0) : packR e.1 e.2.1 e.2.2.1 e.2.2.2.1 e.2.2.2.2 = (((packE e : Nat) : Int), 0) ∧ unpR (packE e) = (e, 0) ∧ packE e < 65536 := by
  obtain ⟨k, n, a, b, c⟩ := e
  have h' : chk k n a b c = 0 := h
  obtain ⟨hk, h0, h1⟩ := chk_ok _ _ _ _ _ h'
  obtain ⟨k, rfl⟩ : ∃ q : Nat, k = q := ⟨k.toNat, by omega⟩
  obtain ⟨n, rfl⟩ : ∃ q : Nat, n = q := ⟨n.toNat, by omega⟩
  have e1 : packR k n a b c = (((packN k n a b c : Nat) : Int), 0) := by unfold packR; rw [if_neg (by simp [h'])]; simp
  have e2 : packE ((k : Int), (n : Int), a, b, c) = packN k n a b c := by unfold packE; simp only; rw [e1]; simp
  rw [e2]
  exact ⟨e1, unp_packN _ _ _ _ _ h', packN_ltU _ _ _ _ _ h'⟩
theorem pack_entW (x : Nat) (h : unpE x = 0) : packE (entW x) = x := by
  unfold packE entW
  rw [pack_unpN x h]
  simp
theorem entW_chk (x : Nat) (h : unpE x = 0) : chkE (entW x) = 0 := unpR_chk x h
theorem unpE_packE (e : En5) (h : chkE e = 0) : unpE (packE e) = 0 := by rw [← unpR_err, (packE_val e h).2.1]
theorem entW_packE (e : En5) (h : chkE e = 0) : entW (packE e) = e := by unfold entW; rw [(packE_val e h).2.1]
theorem unpE_nil : unpE 0 = 0 := by decide
theorem entW_nil : entW 0 = (0, 0, false, false, false) := by decide
theorem unpE_bd (x : Nat) (h : unpE x = 0) : x < 65536 := by have := (unpE_form x h).2.2.1; omega
/-- What a valid entry is. -/
theorem ent_cases (x : Nat) (h : unpE x = 0) : ((entW x) = (0, 0, false, false, false) ∧ x = 0) ∨ (∃ n b c, entW x = (1, n, b, !b, c) ∧ 0 ≤ n ∧ n ≤ 255) ∨ (∃ n, entW x = (2, n, false, false, false) ∧ 0 ≤ n ∧ n ≤ 255) := by
  have hc := entW_chk x h
  have hp := pack_entW x h
  rcases hx : entW x with ⟨k, n, a, b, c⟩
  rw [hx] at hc hp
  have hc' : chk k n a b c = 0 := hc
  obtain ⟨hk, h0, h1⟩ := chk_ok _ _ _ _ _ hc'
  rcases hk with rfl | rfl | rfl
  · left
    have : n = 0 ∧ a = false ∧ b = false ∧ c = false := by grind [chk]
    obtain ⟨rfl, rfl, rfl, rfl⟩ := this
    exact ⟨rfl, by rw [← hp]; decide⟩
  · right; left
    have hne : a ≠ b := by grind [chk]
    have : b = !a := by cases a <;> cases b <;> simp_all
    subst this
    exact ⟨n, a, c, rfl, h0, h1⟩
  · right; right
    have : a = false ∧ b = false ∧ c = false := by grind [chk]
    obtain ⟨rfl, rfl, rfl⟩ := this
    exact ⟨n, rfl, h0, h1⟩
theorem wr_kind (x : Nat) (h : unpE x = 0) (hw : wrW x = true) : (entW x).1 = 1 := by
  rcases ent_cases x h with ⟨e, _⟩ | ⟨n, b, c, e, _⟩ | ⟨n, e, _⟩
  · rw [wrW, e] at hw; cases hw
  · rw [e]
  · rw [wrW, e] at hw; cases hw

theorem rowE_zero (l : List Nat) : rowE l = 0 ↔ l.length ≤ 64 ∧ ∀ x ∈ l, unpE x = 0 := by
  unfold rowE
  by_cases h : 64 < l.length
  · rw [if_pos h]
    exact ⟨fun h1 => by omega, fun h1 => by omega⟩
  · rw [if_neg h, fst0_zero]
    constructor
    · intro h1
      refine ⟨by omega, fun x hx => ?_⟩
      obtain ⟨k, hk, rfl⟩ := List.getElem_of_mem hx
      have := h1 k hk
      rwa [List.getD_eq_getElem?_getD, List.getElem?_eq_getElem hk] at this
    · intro h1 k hk
      rw [List.getD_eq_getElem?_getD, List.getElem?_eq_getElem hk]
      exact h1.2 _ (List.getElem_mem hk)
theorem rowAt_mem {t : Sh} {i : Nat} (hi : i < t.length) : rowAt t i ∈ t := by
  unfold rowAt
  rw [List.getD_eq_getElem?_getD, List.getElem?_eq_getElem hi]
  exact List.getElem_mem hi
theorem mem_rowAt {t : Sh} {l : List Nat} (h : l ∈ t) : ∃ i, i < t.length ∧ rowAt t i = l := by
  obtain ⟨i, hi, rfl⟩ := List.getElem_of_mem h
  exact ⟨i, hi, by unfold rowAt; rw [List.getD_eq_getElem?_getD, List.getElem?_eq_getElem hi]; rfl⟩
theorem wordAt_mem {t : Sh} {i j : Nat} (hj : j < (rowAt t i).length) : wordAt t i j ∈ rowAt t i := by
  unfold wordAt
  rw [List.getD_eq_getElem?_getD, List.getElem?_eq_getElem hj]
  exact List.getElem_mem hj
theorem mem_wordAt {t : Sh} {i x : Nat} (h : x ∈ rowAt t i) : ∃ j, j < (rowAt t i).length ∧ wordAt t i j = x := by
  obtain ⟨j, hj, e⟩ := List.getElem_of_mem h
  exact ⟨j, hj, by unfold wordAt; rw [List.getD_eq_getElem?_getD, List.getElem?_eq_getElem hj]; exact e⟩

/-- A valid sharing. -/
structure ShV (t : Sh) : Prop where
  len : t.length ≤ 8
  row : ∀ l ∈ t, l.length ≤ 64
  ok : ∀ l ∈ t, ∀ x ∈ l, unpE x = 0
  wr : ∀ l ∈ t, ∀ x ∈ l, wrW x = true → cntS t (useW x) ≤ 1
theorem wrE_zero (t : Sh) (i : Nat) : wrE t i = 0 ↔ ∀ x ∈ rowAt t i, wrW x = true → cntS t (useW x) ≤ 1 := by
  unfold wrE
  by_cases h : (rowAt t i).any (wrB t) = true
  · rw [if_pos h]
    refine ⟨fun h1 => by omega, fun h1 => ?_⟩
    obtain ⟨x, hx, hb⟩ := List.any_eq_true.1 h
    simp only [wrB, Bool.and_eq_true, decide_eq_true_eq] at hb
    have := h1 x hx hb.1
    omega
  · rw [if_neg h]
    refine ⟨fun _ x hx hw => ?_, fun _ => rfl⟩
    have h2 : wrB t x ≠ true := fun h3 => h (List.any_eq_true.2 ⟨x, hx, h3⟩)
    simp only [wrB, hw, Bool.true_and, ne_eq, decide_eq_true_eq] at h2
    omega
theorem sh_iff (t : Sh) : (shE t).1 = 0 ↔ ShV t := by
  unfold shE
  constructor
  · intro h
    by_cases h8 : 8 < t.length
    · rw [if_pos h8] at h; simp at h
    · rw [if_neg h8] at h
      by_cases h1 : (fsti (fun i => rowE (rowAt t i)) t.length).1 = 0
      · rw [if_neg (by simp [h1])] at h
        have h2 := (fsti_zero _ _).1 h1
        have h3 := (fsti_zero _ _).1 h
        refine ⟨by omega, fun l hl => ?_, fun l hl => ?_, fun l hl => ?_⟩
        all_goals obtain ⟨i, hi, rfl⟩ := mem_rowAt hl
        · exact ((rowE_zero _).1 (h2 i hi)).1
        · exact ((rowE_zero _).1 (h2 i hi)).2
        · exact (wrE_zero t i).1 (h3 i hi)
      · rw [if_pos h1] at h
        exact absurd h h1
  · intro h
    have h1 : (fsti (fun i => rowE (rowAt t i)) t.length).1 = 0 := (fsti_zero _ _).2 fun i hi => (rowE_zero _).2 ⟨h.row _ (rowAt_mem hi), h.ok _ (rowAt_mem hi)⟩
    rw [if_neg (by have := h.len; omega), if_neg (by simp [h1])]
    exact (fsti_zero _ _).2 fun i hi => (wrE_zero t i).2 (h.wr _ (rowAt_mem hi))
theorem ShV.zero {t : Sh} (h : ShV t) : shE t = (0, 0) := by
  have h0 := (sh_iff t).2 h
  unfold shE at h0 ⊢
  have h1 : (fsti (fun i => rowE (rowAt t i)) t.length).1 = 0 := (fsti_zero _ _).2 fun i hi => (rowE_zero _).2 ⟨h.row _ (rowAt_mem hi), h.ok _ (rowAt_mem hi)⟩
  rw [if_neg (by have := h.len; omega), if_neg (by simp [h1])] at h0 ⊢
  exact fsti_none _ _ h0
theorem ShV.small {t : Sh} (h : ShV t) : shsmall t := fun l hl x hx => by
  have := unpE_bd x (h.ok l hl x hx)
  omega

/-! ### counts -/
theorem cntL_set (l : List Nat) (j y : Nat) (a : Int × Int) (hj : j < l.length) : cntL (l.set j y) a + (if useW (l.getD j 0) = a then 1 else 0) = cntL l a + (if useW y = a then 1 else 0) := by
  induction l generalizing j with
  | nil => simp at hj
  | cons x l ih =>
    cases j with
    | zero =>
      simp only [List.set_cons_zero, cntL, List.countP_cons, List.getD_cons_zero, decide_eq_true_eq]
      omega
    | succ j =>
      have := ih j (by simpa using hj)
      simp only [List.set_cons_succ, cntL, List.countP_cons, List.getD_cons_succ] at this ⊢
      omega
theorem cntL_append (l m : List Nat) (a : Int × Int) : cntL (l ++ m) a = cntL l a + cntL m a := by simp [cntL]
theorem cntS_cons (l : List Nat) (t : Sh) (a : Int × Int) : cntS (l :: t) a = cntL l a + cntS t a := by simp [cntS]
theorem cntS_append (s t : Sh) (a : Int × Int) : cntS (s ++ t) a = cntS s a + cntS t a := by simp [cntS]
theorem cntS_set (t : Sh) (i : Nat) (l : List Nat) (a : Int × Int) (hi : i < t.length) : cntS (t.set i l) a + cntL (rowAt t i) a = cntS t a + cntL l a := by
  induction t generalizing i with
  | nil => simp at hi
  | cons m t ih =>
    cases i with
    | zero =>
      simp only [List.set_cons_zero, cntS_cons, rowAt, List.getD_cons_zero]
      omega
    | succ i =>
      have := ih i (by simpa using hi)
      simp only [List.set_cons_succ, cntS_cons, rowAt, List.getD_cons_succ] at this ⊢
      omega
theorem cntS_setW (t : Sh) (i j y : Nat) (a : Int × Int) (hi : i < t.length) (hj : j < (rowAt t i).length) :
    cntS (setW t i j y) a + (if useW (wordAt t i j) = a then 1 else 0) = cntS t a + (if useW y = a then 1 else 0) := by
  have h1 := cntS_set t i ((rowAt t i).set j y) a hi
  have h2 := cntL_set (rowAt t i) j y a hj
  unfold setW wordAt
  omega
theorem cntL_map (f : Nat → Nat) (l : List Nat) (a : Int × Int) (h : ∀ x ∈ l, (useW (f x) = a ↔ useW x = a)) : cntL (l.map f) a = cntL l a := by
  induction l with
  | nil => rfl
  | cons x l ih =>
    have h1 := ih fun y hy => h y (by simp [hy])
    have h2 := h x (by simp)
    simp only [List.map_cons, cntL, List.countP_cons, decide_eq_true_eq] at h1 ⊢
    rw [h1]
    by_cases h3 : useW x = a
    · rw [if_pos h3, if_pos (h2.2 h3)]
    · rw [if_neg h3, if_neg (fun h4 => h3 (h2.1 h4))]
theorem cntL_pos (l : List Nat) (a : Int × Int) : 0 < cntL l a ↔ ∃ x ∈ l, useW x = a := by
  unfold cntL
  rw [List.countP_pos_iff]
  simp
theorem cntL_le (t : Sh) (i : Nat) (a : Int × Int) (hi : i < t.length) : cntL (rowAt t i) a ≤ cntS t a := by
  have := cntS_set t i [] a hi
  simp only [cntL, List.countP_nil] at this ⊢
  omega
theorem cntL_two (t : Sh) (i j : Nat) (a : Int × Int) (hi : i < t.length) (hj : j < t.length) (hne : i ≠ j) : cntL (rowAt t i) a + cntL (rowAt t j) a ≤ cntS t a := by
  have h1 := cntS_set t i [] a hi
  have h2 := cntL_le (t.set i []) j a (by simpa using hj)
  have h3 : rowAt (t.set i []) j = rowAt t j := by
    unfold rowAt
    rw [List.getD_eq_getElem?_getD, List.getD_eq_getElem?_getD, List.getElem?_set_ne hne]
  rw [h3] at h2
  simp only [cntL, List.countP_nil] at h1 h2 ⊢
  omega
theorem cntS_pos (t : Sh) (a : Int × Int) : 0 < cntS t a ↔ ∃ l ∈ t, ∃ x ∈ l, useW x = a := by
  induction t with
  | nil => simp [cntS]
  | cons l t ih =>
    rw [cntS_cons]
    constructor
    · intro h
      by_cases h1 : 0 < cntL l a
      · obtain ⟨x, hx, e⟩ := (cntL_pos l a).1 h1
        exact ⟨l, by simp, x, hx, e⟩
      · obtain ⟨m, hm, x, hx, e⟩ := ih.1 (by omega)
        exact ⟨m, by simp [hm], x, hx, e⟩
    · rintro ⟨m, hm, x, hx, e⟩
      rcases List.mem_cons.1 hm with rfl | hm
      · have := (cntL_pos m a).2 ⟨x, hx, e⟩
        omega
      · have := ih.2 ⟨m, hm, x, hx, e⟩
        omega
/-- Among the entries of a valid sharing no Writable one shares its frame. -/
theorem mem_setW {t : Sh} {i j y : Nat} {l : List Nat} (h : l ∈ setW t i j y) : ∃ m, (m ∈ t ∨ (m = rowAt t i)) ∧ l.length = m.length ∧ ∀ x ∈ l, x = y ∨ x ∈ m := by
  unfold setW at h
  rcases List.mem_or_eq_of_mem_set h with h | rfl
  · exact ⟨l, .inl h, rfl, fun x hx => .inr hx⟩
  · refine ⟨rowAt t i, .inr rfl, by simp, fun x hx => ?_⟩
    rcases List.mem_or_eq_of_mem_set hx with hx | hx
    · exact .inr hx
    · exact .inl hx
theorem ShV.put {t : Sh} (h : ShV t) {i j y : Nat} (hi : i < t.length) (hj : j < (rowAt t i).length) (hy : unpE y = 0) (hw : wrW y = true → cntS (setW t i j y) (useW y) ≤ 1)
    (hc : ∀ a : Int × Int, a.1 = 1 → cntS (setW t i j y) a ≤ cntS t a ∨ cntS (setW t i j y) a ≤ 1) : ShV (setW t i j y) := by
  have key : ∀ l ∈ setW t i j y, l.length ≤ 64 ∧ (∀ x ∈ l, x = y ∨ (unpE x = 0 ∧ (wrW x = true → cntS t (useW x) ≤ 1))) := by
    intro l hl
    obtain ⟨m, hm, e, hx⟩ := mem_setW hl
    have hm' : m ∈ t := by
      rcases hm with hm | rfl
      · exact hm
      · exact rowAt_mem hi
    refine ⟨by rw [e]; exact h.row m hm', fun x hxl => ?_⟩
    rcases hx x hxl with e | hxm
    · exact .inl e
    · exact .inr ⟨h.ok m hm' x hxm, h.wr m hm' x hxm⟩
  refine ⟨by unfold setW; simpa using h.len, fun l hl => (key l hl).1, fun l hl x hx => ?_, fun l hl x hx hwx => ?_⟩
  · rcases (key l hl).2 x hx with rfl | h1
    · exact hy
    · exact h1.1
  · rcases (key l hl).2 x hx with rfl | ⟨h1, h2⟩
    · exact hw hwx
    · have h3 := h2 hwx
      rcases hc (useW x) (wr_kind x h1 hwx) with h4 | h4 <;> omega
theorem chk_own (n : Int) (a b c : Bool) (h0 : 0 ≤ n) (h1 : n ≤ 255) (h : a ≠ b) : chkE (1, n, a, b, c) = 0 := by
  unfold chkE
  grind [chk]
theorem chk_slot (n : Int) (h0 : 0 ≤ n) (h1 : n ≤ 255) : chkE (2, n, false, false, false) = 0 := by
  unfold chkE
  grind [chk]
theorem useW_packE (e : En5) (h : chkE e = 0) : useW (packE e) = useE e := by unfold useW; rw [entW_packE e h]

/-! ### each function keeps a sharing valid -/
theorem ask_zero {t : Sh} {table page : Int} (h : askS t table page = 0) : ShV t ∧ ∃ i j : Nat, table = i ∧ page = j ∧ i < t.length ∧ j < (rowAt t i).length := by
  unfold askS at h
  obtain ⟨h1, h2⟩ := orE_zero h
  split at h2
  · omega
  · rename_i h3
    refine ⟨(sh_iff t).1 h1, table.toNat, page.toNat, by omega, by omega, by omega, by omega⟩
theorem ask_ok {t : Sh} {i j : Nat} (h : ShV t) (hi : i < t.length) (hj : j < (rowAt t i).length) : askS t i j = 0 := by
  unfold askS
  rw [orE_r _ ((sh_iff t).2 h), if_neg]
  rw [Int.toNat_natCast]
  omega
theorem need_three {t : Sh} {x : Nat} (hx : unpE x = 0) (h : needR t x = 3) : ∃ n c, entW x = (1, n, false, true, c) ∧ 0 ≤ n ∧ n ≤ 255 ∧ cntS t (1, n) = 1 := by
  rcases ent_cases x hx with ⟨e, _⟩ | ⟨n, b, c, e, h0, h1⟩ | ⟨n, e, _⟩
  · simp [needR, e] at h
  · have hu : useW x = (1, n) := by simp [useW, useE, e]
    simp only [needR, e, wrW, hu] at h
    cases b
    · simp at h
      exact ⟨n, c, by simpa using e, h0, h1, h⟩
    · simp at h
  · simp [needR, e] at h
theorem need_four {t : Sh} {x : Nat} (hx : unpE x = 0) (h : needR t x = 4) : ∃ n c, entW x = (1, n, false, true, c) ∧ 0 ≤ n ∧ n ≤ 255 ∧ cntS t (1, n) ≠ 1 := by
  rcases ent_cases x hx with ⟨e, _⟩ | ⟨n, b, c, e, h0, h1⟩ | ⟨n, e, _⟩
  · simp [needR, e] at h
  · have hu : useW x = (1, n) := by simp [useW, useE, e]
    simp only [needR, e, wrW, hu] at h
    cases b
    · simp at h
      exact ⟨n, c, by simpa using e, h0, h1, h⟩
    · simp at h
  · simp [needR, e] at h
theorem take_valid {t : Sh} {table page : Int} (h : takeE t table page = 0) : ShV (takeR t table page).1 := by
  unfold takeR
  rw [if_neg (by simp [h])]
  obtain ⟨h1, h2⟩ := orE_zero h
  obtain ⟨hv, i, j, rfl, rfl, hi, hj⟩ := ask_zero h1
  simp only [Int.toNat_natCast] at h2 ⊢
  have hx := hv.ok _ (rowAt_mem hi) _ (wordAt_mem hj)
  split at h2
  · omega
  · rename_i h3
    obtain ⟨n, c, e, h0, h4, h5⟩ := need_three (t := t) hx (by omega)
    have hc := chk_own n true false c h0 h4 (by decide)
    have hy : packE (ownE (entW (wordAt t i j))) = packE (1, n, true, false, c) := by rw [e]; rfl
    have hu : useW (wordAt t i j) = (1, n) := by simp [useW, useE, e]
    have hu2 : useW (packE (1, n, true, false, c)) = (1, n) := useW_packE _ hc
    have hcnt : ∀ a, cntS (setW t i j (packE (1, n, true, false, c))) a = cntS t a := fun a => by
      have := cntS_setW t i j (packE (1, n, true, false, c)) a hi hj
      rw [hu, hu2] at this
      omega
    rw [hy]
    refine hv.put hi hj (unpE_packE _ hc) (fun _ => ?_) (fun a _ => .inl (Nat.le_of_eq (hcnt a)))
    rw [hcnt, hu2]
    omega
theorem brk_valid {t : Sh} {table page frame : Int} (h : brkE t table page frame = 0) : ShV (brkR t table page frame).1 := by
  unfold brkR
  rw [if_neg (by simp [h])]
  obtain ⟨h1, h2⟩ := orE_zero h
  obtain ⟨hv, i, j, rfl, rfl, hi, hj⟩ := ask_zero h1
  simp only [Int.toNat_natCast] at h2 ⊢
  have hx := hv.ok _ (rowAt_mem hi) _ (wordAt_mem hj)
  split at h2
  · omega
  · split at h2
    · omega
    · split at h2
      · omega
      · rename_i h3 h4 h5
        have hc := chk_own frame true false false (by omega) (by omega) (by decide)
        have hu2 : useW (packE (1, frame, true, false, false)) = (1, frame) := useW_packE _ hc
        have hcnt : ∀ a, cntS (setW t i j (packE (1, frame, true, false, false))) a ≤ cntS t a + if (1, frame) = a then 1 else 0 := fun a => by
          have := cntS_setW t i j (packE (1, frame, true, false, false)) a hi hj
          rw [hu2] at this
          omega
        have h1f := hcnt (1, frame)
        rw [if_pos rfl] at h1f
        refine hv.put hi hj (unpE_packE _ hc) (fun _ => ?_) (fun a _ => ?_)
        · rw [hu2]; omega
        · by_cases e : (1, frame) = a
          · subst e; right; omega
          · have := hcnt a
            rw [if_neg e] at this
            exact .inl this
theorem drop_valid {t : Sh} {table page : Int} (h : askS t table page = 0) : ShV (dropR t table page).1 := by
  unfold dropR
  rw [if_neg (by simp [h])]
  obtain ⟨hv, i, j, rfl, rfl, hi, hj⟩ := ask_zero h
  simp only [Int.toNat_natCast]
  refine hv.put hi hj unpE_nil (fun h1 => ?_) (fun a ha => .inl ?_)
  · rw [wrW, entW_nil] at h1; cases h1
  · have := cntS_setW t i j 0 a hi hj
    have hne : useW 0 ≠ a := by
      rintro rfl
      rw [useW, entW_nil] at ha
      simp [useE] at ha
    rw [if_neg hne] at this
    omega
theorem cntS_map (f : Nat → Nat) (t : Sh) (a : Int × Int) (h : ∀ l ∈ t, ∀ x ∈ l, (useW (f x) = a ↔ useW x = a)) : cntS (t.map fun l => l.map f) a = cntS t a := by
  induction t with
  | nil => rfl
  | cons l t ih =>
    rw [List.map_cons, cntS_cons, cntS_cons, ih fun m hm => h m (by simp [hm]), cntL_map f l a (h l (by simp))]
theorem out_zero {t : Sh} {frame slot : Int} (h : outE2 t frame slot = 0) : ShV t ∧ 0 ≤ frame ∧ frame ≤ 255 ∧ 0 ≤ slot ∧ slot ≤ 255 ∧ 0 < cntS t (1, frame) ∧ cntS t (2, slot) = 0 := by
  obtain ⟨h1, h2⟩ := orE_zero h
  split at h2
  · omega
  · split at h2
    · omega
    · split at h2
      · omega
      · exact ⟨(sh_iff t).1 h1, by omega, by omega, by omega, by omega, by omega, by omega⟩
theorem useW_outW (frame slot : Int) (x : Nat) (h0 : 0 ≤ slot) (h1 : slot ≤ 255) : useW (outW frame slot x) = if useW x = (1, frame) then (2, slot) else useW x := by
  unfold outW
  by_cases h : useW x = (1, frame)
  · rw [if_pos h, if_pos h, useW_packE _ (chk_slot slot h0 h1)]; rfl
  · rw [if_neg h, if_neg h]
theorem out_valid {t : Sh} {frame slot : Int} (h : outE2 t frame slot = 0) : ShV (outR t frame slot).1 := by
  unfold outR
  rw [if_neg (by simp [h])]
  obtain ⟨hv, f0, f1, s0, s1, hp, hz⟩ := out_zero h
  have hw : ∀ x, wrW (outW frame slot x) = true → outW frame slot x = x ∧ useW x ≠ (1, frame) := by
    intro x hx
    unfold outW at hx ⊢
    by_cases hu : useW x = (1, frame)
    · rw [if_pos hu, wrW, entW_packE _ (chk_slot slot s0 s1)] at hx; cases hx
    · exact ⟨if_neg hu, hu⟩
  refine ⟨by simpa using hv.len, fun l hl => ?_, fun l hl x hx => ?_, fun l hl x hx hwx => ?_⟩
  all_goals obtain ⟨m, hm, rfl⟩ := List.mem_map.1 hl
  · simpa using hv.row m hm
  · obtain ⟨y, hy, rfl⟩ := List.mem_map.1 hx
    unfold outW
    split
    · exact unpE_packE _ (chk_slot slot s0 s1)
    · exact hv.ok m hm y hy
  · obtain ⟨y, hy, rfl⟩ := List.mem_map.1 hx
    obtain ⟨e1, e2⟩ := hw y hwx
    rw [e1] at hwx ⊢
    have hk := wr_kind y (hv.ok m hm y hy) hwx
    have := hv.wr m hm y hy hwx
    show cntS (t.map fun l => l.map (outW frame slot)) (useW y) ≤ 1
    rw [cntS_map]
    · exact this
    · intro l hl x hx
      rw [useW_outW _ _ _ s0 s1]
      by_cases h1 : useW x = (1, frame)
      · rw [if_pos h1, h1]
        refine ⟨fun h2 => ?_, fun h2 => absurd h2.symm e2⟩
        have : (useW y).1 = 1 := hk
        rw [← h2] at this
        simp at this
      · rw [if_neg h1]
theorem share_use (x : Nat) (h : unpE x = 0) : useW (shareW x) = useW x ∧ unpE (shareW x) = 0 ∧ ((entW (shareW x)).1 = 1 → wrW (shareW x) = false) ∧ (entW (shareW x)).1 = (entW x).1 := by
  rcases ent_cases x h with ⟨e, _⟩ | ⟨n, b, c, e, h0, h1⟩ | ⟨n, e, _⟩
  · have : shareW x = x := by unfold shareW; rw [e]; simp
    rw [this]
    exact ⟨rfl, h, fun h1 => by rw [e] at h1; simp at h1, rfl⟩
  · have hc := chk_own n false true c h0 h1 (by decide)
    have : shareW x = packE (1, n, false, true, c) := by unfold shareW; rw [e]; simp
    rw [this, useW_packE _ hc, wrW, entW_packE _ hc]
    exact ⟨by simp [useW, useE, e], unpE_packE _ hc, fun _ => rfl, by rw [e]⟩
  · have : shareW x = x := by unfold shareW; rw [e]; simp
    rw [this]
    exact ⟨rfl, h, fun h1 => by rw [e] at h1; simp at h1, rfl⟩
theorem child_use (x : Nat) (h : unpE x = 0) : useW (childW x) = useW x ∧ unpE (childW x) = 0 ∧ ((entW (childW x)).1 = 1 → wrW (childW x) = false) ∧ (entW (childW x)).1 = (entW x).1 := by
  rcases ent_cases x h with ⟨e, _⟩ | ⟨n, b, c, e, h0, h1⟩ | ⟨n, e, _⟩
  · have : childW x = x := by unfold childW; rw [e]; simp
    rw [this]
    exact ⟨rfl, h, fun h1 => by rw [e] at h1; simp at h1, rfl⟩
  · have hc := chk_own n false true false h0 h1 (by decide)
    have : childW x = packE (1, n, false, true, false) := by unfold childW; rw [e]; simp
    rw [this, useW_packE _ hc, wrW, entW_packE _ hc]
    exact ⟨by simp [useW, useE, e], unpE_packE _ hc, fun _ => rfl, by rw [e]⟩
  · have : childW x = x := by unfold childW; rw [e]; simp
    rw [this]
    exact ⟨rfl, h, fun h1 => by rw [e] at h1; simp at h1, rfl⟩
theorem fork_zero {t : Sh} {table : Int} (h : forkE t table = 0) : ShV t ∧ ∃ i : Nat, table = i ∧ i < t.length ∧ t.length < 8 := by
  obtain ⟨h1, h2⟩ := orE_zero h
  obtain ⟨h3, h4⟩ := orE_zero h1
  have hv := (sh_iff t).1 h3
  split at h2
  · omega
  · split at h4
    · omega
    · have := hv.len
      exact ⟨hv, table.toNat, by omega, by omega, by omega⟩
theorem fork_cnt {t : Sh} {i : Nat} (hv : ShV t) (hi : i < t.length) (a : Int × Int) :
    cntS (t.set i ((rowAt t i).map shareW) ++ [(rowAt t i).map childW]) a = cntS t a + cntL (rowAt t i) a := by
  have h1 := cntS_set t i ((rowAt t i).map shareW) a hi
  have h2 : cntL ((rowAt t i).map shareW) a = cntL (rowAt t i) a := cntL_map _ _ _ fun x hx => by rw [(share_use x (hv.ok _ (rowAt_mem hi) x hx)).1]
  have h3 : cntL ((rowAt t i).map childW) a = cntL (rowAt t i) a := cntL_map _ _ _ fun x hx => by rw [(child_use x (hv.ok _ (rowAt_mem hi) x hx)).1]
  rw [cntS_append, cntS_cons, h3]
  have : cntS [] a = 0 := rfl
  omega
theorem fork_valid {t : Sh} {table : Int} (h : forkE t table = 0) : ShV (forkR t table).1 := by
  unfold forkR
  rw [if_neg (by simp [h])]
  obtain ⟨hv, i, rfl, hi, h8⟩ := fork_zero h
  simp only [Int.toNat_natCast]
  have hno : ∀ x, unpE x = 0 → ((entW x).1 = 1 → wrW x = false) → wrW x = true → False := fun x h0 h1 h2 => by
    rw [h1 (wr_kind x h0 h2)] at h2; cases h2
  have who : ∀ l ∈ t.set i ((rowAt t i).map shareW) ++ [(rowAt t i).map childW], l = (rowAt t i).map shareW ∨ l = (rowAt t i).map childW ∨ ∃ k, k ≠ i ∧ k < t.length ∧ l = rowAt t k := by
    intro l hl
    rcases List.mem_append.1 hl with hl | hl
    · obtain ⟨k, hk, e⟩ := List.getElem_of_mem hl
      rw [List.getElem_set] at e
      split at e
      · exact .inl e.symm
      · rename_i hne
        have hk' : k < t.length := by simpa using hk
        have hrow : rowAt t k = t[k] := by
          unfold rowAt
          rw [List.getD_eq_getElem?_getD, List.getElem?_eq_getElem hk']
          rfl
        exact .inr (.inr ⟨k, fun e => hne e.symm, hk', by rw [hrow]; exact e.symm⟩)
    · simp at hl
      exact .inr (.inl hl)
  refine ⟨by simp; omega, fun l hl => ?_, fun l hl x hx => ?_, fun l hl x hx hwx => ?_⟩
  · rcases who l hl with rfl | rfl | ⟨k, _, hk, rfl⟩
    · simpa using hv.row _ (rowAt_mem hi)
    · simpa using hv.row _ (rowAt_mem hi)
    · exact hv.row _ (rowAt_mem hk)
  · rcases who l hl with rfl | rfl | ⟨k, _, hk, rfl⟩
    · obtain ⟨y, hy, rfl⟩ := List.mem_map.1 hx
      exact (share_use y (hv.ok _ (rowAt_mem hi) y hy)).2.1
    · obtain ⟨y, hy, rfl⟩ := List.mem_map.1 hx
      exact (child_use y (hv.ok _ (rowAt_mem hi) y hy)).2.1
    · exact hv.ok _ (rowAt_mem hk) x hx
  · rcases who l hl with rfl | rfl | ⟨k, hne, hk, rfl⟩
    · obtain ⟨y, hy, rfl⟩ := List.mem_map.1 hx
      obtain ⟨_, h1, h2, _⟩ := share_use y (hv.ok _ (rowAt_mem hi) y hy)
      exact (hno _ h1 h2 hwx).elim
    · obtain ⟨y, hy, rfl⟩ := List.mem_map.1 hx
      obtain ⟨_, h1, h2, _⟩ := child_use y (hv.ok _ (rowAt_mem hi) y hy)
      exact (hno _ h1 h2 hwx).elim
    · rw [fork_cnt hv hi]
      have h1 := hv.wr _ (rowAt_mem hk) x hx hwx
      have h2 := cntL_two t k i (useW x) hk hi hne
      have h3 := (cntL_pos (rowAt t k) (useW x)).2 ⟨x, hx, rfl⟩
      omega
end Go.Proofs.YtomndlnfidkdcaaDoor
