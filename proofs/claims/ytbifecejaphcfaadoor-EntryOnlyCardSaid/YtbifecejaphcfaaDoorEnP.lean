/- Entries, words and texts lead back to one another: plain numbers and lists, no program in sight. -/
import Derived.Test.YtbifecejaphcfaaDoorEn15
namespace Go.Proofs.YtbifecejaphcfaaDoor
open Go
set_option linter.unusedSimpArgs false
set_option linter.unusedVariables false

theorem flagN_bits (a b c : Bool) : flagN a b c % 2 = a.toNat ∧ flagN a b c / 2 % 2 = b.toNat ∧ flagN a b c / 4 % 2 = c.toNat := by cases a <;> cases b <;> cases c <;> decide
theorem toNat_dec (a : Bool) (x : Nat) (h : x = a.toNat) : decide (x = 1) = a := by cases a <;> simp_all
/-- The word of a valid entry is this entry. -/
theorem unp_pack (k n : Nat) (a b c : Bool) (h : chk k n a b c = 0) : unpR (packN k n a b c) = (((k : Int), (n : Int), a, b, c), 0) := by
  obtain ⟨hk, hn0, hn1⟩ := chk_ok _ _ _ _ _ h
  have hf := flagN_lt a b c
  obtain ⟨f1, f2, f3⟩ := flagN_bits a b c
  have e1 : packN k n a b c % 4 = k := by unfold packN; omega
  have e2 : packN k n a b c / 256 = n := by unfold packN; omega
  have e3 : packN k n a b c / 4 % 2 = a.toNat := by unfold packN; omega
  have e4 : packN k n a b c / 8 % 2 = b.toNat := by unfold packN; omega
  have e5 : packN k n a b c / 16 % 2 = c.toNat := by unfold packN; omega
  have e6 : packN k n a b c / 32 % 8 = 0 := by unfold packN; omega
  have e7 : packN k n a b c / 65536 = 0 := by unfold packN; omega
  have hE : unpE (packN k n a b c) = 0 := by
    unfold unpE
    rw [if_neg (by omega), if_neg (by omega), e1, e2, toNat_dec a _ e3, toNat_dec b _ e4, toNat_dec c _ e5]
    exact h
  unfold unpR
  rw [if_pos hE, e1, e2, toNat_dec a _ e3, toNat_dec b _ e4, toNat_dec c _ e5]
theorem packN_lt (k n : Nat) (a b c : Bool) (h : chk k n a b c = 0) : packN k n a b c < 65536 := by
  obtain ⟨hk, hn0, hn1⟩ := chk_ok _ _ _ _ _ h
  have hf := flagN_lt a b c
  unfold packN
  omega
theorem dec_toNat (x : Nat) (h : x < 2) : (decide (x = 1)).toNat = x := by
  have : x = 0 ∨ x = 1 := by omega
  rcases this with rfl | rfl <;> rfl
/-- A word that is an entry is this entry's word. -/
theorem pack_unp (x : Nat) (h : (unpR x).2 = 0) : packR (unpR x).1.1 (unpR x).1.2.1 (unpR x).1.2.2.1 (unpR x).1.2.2.2.1 (unpR x).1.2.2.2.2 = ((x : Int), 0) := by
  have hok := unpR_ok x h
  unfold packR
  rw [if_neg (by simp [hok])]
  unfold unpR at h hok ⊢
  by_cases h0 : unpE x = 0
  · rw [if_pos h0] at hok ⊢
    simp only [Int.toNat_natCast]
    have h2 : ¬ (x / 32 % 8 ≠ 0 ∨ x / 65536 ≠ 0) := by
      intro hc
      unfold unpE at h0
      by_cases h1 : x % 4 = 3
      · rw [if_pos h1] at h0; simp at h0
      · rw [if_neg h1, if_pos hc] at h0; simp at h0
    congr 2
    unfold packN flagN
    rw [dec_toNat _ (by omega), dec_toNat _ (by omega), dec_toNat _ (by omega)]
    omega
  · rw [if_neg h0] at h
    exact absurd h h0

theorem txt2_all : ((List.range 256).all fun n => decide (progR (txtL 2 n false false) = ((2, (n : Int), false, false, false), 0))) = true := by decide +kernel
theorem txt1_all : ((List.range 256).all fun n => [false, true].all fun a => [false, true].all fun c => decide (progR (txtL 1 n a c) = ((1, (n : Int), a, !a, c), 0))) = true := by decide +kernel
/-- The text of a valid entry is this entry. -/
theorem parse_text (k n : Nat) (a b c : Bool) (h : chk k n a b c = 0) : progR (txtL k n a c) = (((k : Int), (n : Int), a, b, c), 0) := by
  obtain ⟨hk, hn0, hn1⟩ := chk_ok _ _ _ _ _ h
  have hk3 : k = 0 ∨ k = 1 ∨ k = 2 := by omega
  rcases hk3 with rfl | rfl | rfl
  · have hn : n = 0 := by grind [chk]
    have ha : a = false := by grind [chk]
    have hb : b = false := by grind [chk]
    have hc : c = false := by grind [chk]
    subst hn ha hb hc
    decide
  · have hb : b = !a := by cases a <;> cases b <;> grind [chk]
    subst hb
    have h1 := List.all_eq_true.1 txt1_all n (List.mem_range.2 (by omega))
    have h2 := List.all_eq_true.1 h1 a (by cases a <;> simp)
    have h3 := List.all_eq_true.1 h2 c (by cases c <;> simp)
    simpa using h3
  · have ha : a = false := by grind [chk]
    have hb : b = false := by grind [chk]
    have hc : c = false := by grind [chk]
    subst ha hb hc
    have h1 := List.all_eq_true.1 txt2_all n (List.mem_range.2 (by omega))
    simpa using h1
theorem isD_of (x : UInt8) (h : isD x = true) : 48 ≤ x.toNat ∧ x.toNat ≤ 57 := by unfold isD at h; simpa using h
theorem of_dig (x : UInt8) (h : isD x = true) (m : Nat) (hm : m = x.toNat - 48) : UInt8.ofNat (48 + m) = x := by
  have := isD_of x h
  rw [hm, show 48 + (x.toNat - 48) = x.toNat by omega, UInt8.ofNat_toNat]
theorem dig_num (d : List UInt8) (n : Nat) (h : numR d = some n) : Lib.decDigits n = d := by
  obtain ⟨h1, h2, h3, h4, h5⟩ := numR_some d n h
  subst h5
  match d, h1, h2, h3, h4 with
  | [x], _, _, _, h4 =>
    have hx : isD x = true := by simpa using h4
    have hb := isD_of x hx
    have hn : numV [x] = x.toNat - 48 := by simp [numV]
    rw [hn, dig_small _ (by omega), of_dig x hx _ rfl]
  | [x, y], _, _, h3, h4 =>
    have hx : isD x = true ∧ isD y = true := by simpa using h4
    have hb := isD_of x hx.1
    have hc := isD_of y hx.2
    have hne : x.toNat ≠ 48 := fun e => h3 ⟨by simp, by simpa using UInt8.toNat_inj.1 (show x.toNat = (48 : UInt8).toNat from e)⟩
    have hn : numV [x, y] = 10 * (x.toNat - 48) + (y.toNat - 48) := by simp [numV]
    rw [hn, dig_big _ (by omega), dig_small _ (by omega), of_dig x hx.1 _ (by omega), of_dig y hx.2 _ (by omega)]
    rfl
  | [x, y, z], _, _, h3, h4 =>
    have hx : isD x = true ∧ isD y = true ∧ isD z = true := by simpa using h4
    have hb := isD_of x hx.1
    have hc := isD_of y hx.2.1
    have hd := isD_of z hx.2.2
    have hne : x.toNat ≠ 48 := fun e => h3 ⟨by simp, by simpa using UInt8.toNat_inj.1 (show x.toNat = (48 : UInt8).toNat from e)⟩
    have hn : numV [x, y, z] = 10 * (10 * (x.toNat - 48) + (y.toNat - 48)) + (z.toNat - 48) := by simp [numV]
    rw [hn, dig_big _ (by omega), dig_big _ (by omega), dig_small _ (by omega), of_dig x hx.1 _ (by omega), of_dig y hx.2.1 _ (by omega), of_dig z hx.2.2 _ (by omega)]
    rfl
theorem fin_ok (k : Int) (n : Nat) (a b c : Bool) (h : (finP k (some n) a b c).2 = 0) : n ≤ 255 ∧ finP k (some n) a b c = ((k, (n : Int), a, b, c), 0) := by
  unfold finP at h ⊢
  simp only at h ⊢
  by_cases hb : 255 < n
  · rw [if_pos hb] at h; simp [errP] at h
  · rw [if_neg hb]; exact ⟨by omega, rfl⟩
theorem txt_of (k n : Nat) (a b c : Bool) (h : chk k n a b c = 0) : textR k n a b c = (txtL k n a c, 0) := by
  unfold textR
  rw [if_neg (by simp [h])]
  rfl
/-- A text that is an entry is this entry's text. -/
theorem text_parse (l : List UInt8) (h : (progR l).2 = 0) : textR (progR l).1.1 (progR l).1.2.1 (progR l).1.2.2.1 (progR l).1.2.2.2.1 (progR l).1.2.2.2.2 = (l, 0) := by
  rcases l with _ | ⟨c, t⟩
  · rw [progR_nil] at h; simp at h
  by_cases h45 : c = 45 ∧ t = []
  · obtain ⟨rfl, rfl⟩ := h45
    decide +kernel
  rw [progR_cons c t h45] at h ⊢
  by_cases h1 : c = 115
  · subst h1
    rw [if_pos rfl, ref_s] at h ⊢
    rcases hn : numR t with _ | n
    · rw [hn] at h; simp [finP, errP] at h
    · rw [hn] at h
      obtain ⟨hle, he⟩ := fin_ok _ _ _ _ _ h
      rw [he]
      simp only
      have := txt_of 2 n false false false (by have := chk_two n; rw [if_neg (by omega)] at this; exact this)
      refine this.trans ?_
      unfold txtL
      simp [dig_num t n hn]
  · rw [if_neg h1] at h ⊢
    by_cases h2 : c = 112
    · subst h2
      rw [if_pos rfl, ref_p] at h ⊢
      have hne : progP t ≠ errP 3 := by
        intro e
        rw [e] at h
        simp [errP] at h
      obtain ⟨d, sfx, n, rfl, hn, hs⟩ := prog_not t hne
      obtain ⟨p1, p2, p3, p4⟩ := prog_p d
      rw [hn] at p1 p2 p3 p4
      have hdn := dig_num d n hn
      rcases hs with rfl | rfl | rfl | rfl
      · rw [p1] at h ⊢
        obtain ⟨hle, he⟩ := fin_ok _ _ _ _ _ h
        rw [he]
        refine (txt_of 1 n true false false (by have := chk_one n true false; rw [if_neg (by omega)] at this; exact this)).trans ?_
        unfold txtL
        simp [hdn]
      · rw [p2] at h ⊢
        obtain ⟨hle, he⟩ := fin_ok _ _ _ _ _ h
        rw [he]
        refine (txt_of 1 n true false true (by have := chk_one n true true; rw [if_neg (by omega)] at this; exact this)).trans ?_
        unfold txtL
        simp [hdn]
      · rw [p3] at h ⊢
        obtain ⟨hle, he⟩ := fin_ok _ _ _ _ _ h
        rw [he]
        refine (txt_of 1 n false true false (by have := chk_one n false false; rw [if_neg (by omega)] at this; exact this)).trans ?_
        unfold txtL
        simp [hdn]
      · rw [p4] at h ⊢
        obtain ⟨hle, he⟩ := fin_ok _ _ _ _ _ h
        rw [he]
        refine (txt_of 1 n false true true (by have := chk_one n false true; rw [if_neg (by omega)] at this; exact this)).trans ?_
        unfold txtL
        simp [hdn]
    · rw [if_neg h2] at h
      simp [errP] at h
/-- The entry that is made of a number. -/
def mdK (n : Int) : Nat := (n % 1048576 % 3).toNat
def mdN (n : Int) : Nat := if n % 1048576 % 3 = 0 then 0 else (n % 1048576 / 3 % 256).toNat
def mdA (n : Int) : Bool := decide (n % 1048576 % 3 = 1) && decide (n % 1048576 / 768 % 2 = 0)
def mdB (n : Int) : Bool := decide (n % 1048576 % 3 = 1) && !decide (n % 1048576 / 768 % 2 = 0)
def mdC (n : Int) : Bool := decide (n % 1048576 % 3 = 1) && decide (n % 1048576 / 1536 % 2 = 0)
theorem md_ok (n : Int) : chk (mdK n) (mdN n) (mdA n) (mdB n) (mdC n) = 0 := by
  unfold mdK mdN mdA mdB mdC
  have h : n % 1048576 % 3 = 0 ∨ n % 1048576 % 3 = 1 ∨ n % 1048576 % 3 = 2 := by omega
  have hb : 0 ≤ n % 1048576 / 3 % 256 ∧ n % 1048576 / 3 % 256 ≤ 255 := by omega
  generalize n % 1048576 / 3 % 256 = z at hb
  generalize decide (n % 1048576 / 768 % 2 = 0) = p
  generalize decide (n % 1048576 / 1536 % 2 = 0) = q
  rcases h with h | h | h
  · rw [h]; simp [chk]
  · rw [h]; cases p <;> (simp [chk]; omega)
  · rw [h]; simp [chk]; omega
end Go.Proofs.YtbifecejaphcfaaDoor
