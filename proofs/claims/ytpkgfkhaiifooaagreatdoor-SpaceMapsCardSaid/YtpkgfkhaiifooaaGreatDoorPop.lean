/- How many bits a word has: the steps that math/bits takes, as a plain law on natural numbers. -/
import Derived.Test.YtpkgfkhaiifooaaGreatDoorBase
namespace Go.Proofs.YtpkgfkhaiifooaaGreatDoor
set_option linter.unusedSimpArgs false
set_option linter.unusedVariables false

/-- How many of the 64 bits of x are set. -/
def pop (x : Nat) : Nat := (List.range 64).countP fun j => x.testBit j

theorem testBit_cons (d y j : Nat) (hd : d < 256) : (d + 256 * y).testBit j = if j < 8 then d.testBit j else y.testBit (j - 8) := by
  have := Nat.testBit_two_pow_mul_add y (b := d) (i := 8) (by omega) j
  rw [show 2 ^ 8 * y + d = d + 256 * y by omega] at this
  exact this
theorem and_cons (d y c m : Nat) (hd : d < 256) (hc : c < 256) : (d + 256 * y) &&& (c + 256 * m) = (d &&& c) + 256 * (y &&& m) := by
  apply Nat.eq_of_testBit_eq
  intro j
  have hdc : d &&& c < 256 := Nat.lt_of_le_of_lt Nat.and_le_left hd
  rw [Nat.testBit_and, testBit_cons d y j hd, testBit_cons c m j hc, testBit_cons _ _ j hdc]
  split <;> simp

/-- Bytes, the least first. -/
def val : List Nat → Nat
  | [] => 0
  | d :: ds => d + 256 * val ds
def small (ds : List Nat) : Prop := ∀ d ∈ ds, d < 256
theorem val_add (f g : Nat → Nat) (ds : List Nat) : val (ds.map f) + val (ds.map g) = val (ds.map fun d => f d + g d) := by
  induction ds with
  | nil => rfl
  | cons d ds ih => simp only [List.map_cons, val]; omega
theorem and_val (c : Nat) (hc : c < 256) (ds : List Nat) (h : small ds) : val ds &&& val (List.replicate ds.length c) = val (ds.map fun d => d &&& c) := by
  induction ds with
  | nil => simp [val]
  | cons d ds ih =>
    rw [List.length_cons, List.replicate_succ]
    simp only [val, List.map_cons]
    rw [and_cons _ _ _ _ (h d (by simp)) hc, ih (fun x hx => h x (by simp [hx]))]
theorem low_and (a b c k : Nat) (ha : a < 2 ^ k) (hc : c < 2 ^ k) : (a + 2 ^ k * b) &&& c = a &&& c := by
  apply Nat.eq_of_testBit_eq
  intro j
  rw [Nat.testBit_and, Nat.testBit_and]
  have := Nat.testBit_two_pow_mul_add b (b := a) (i := k) ha j
  rw [Nat.add_comm] at this
  rw [this]
  split
  · rfl
  · have hj : c.testBit j = false := Nat.testBit_lt_two_pow (Nat.lt_of_lt_of_le hc (Nat.pow_le_pow_right (by omega) (by omega)))
    simp [hj]
theorem shr_val (k c : Nat) (hk : k ≤ 8) (hc : c < 2 ^ (8 - k)) (ds : List Nat) (h : small ds) : (val ds / 2 ^ k) &&& val (List.replicate ds.length c) = val (ds.map fun d => (d / 2 ^ k) &&& c) := by
  induction ds with
  | nil => simp [val]
  | cons d ds ih =>
    have hd := h d (by simp)
    have hp : 2 ^ (8 - k) * 2 ^ k = 256 := by rw [← Nat.pow_add, show 8 - k + k = 8 by omega]
    have hc8 : c < 256 := Nat.lt_of_lt_of_le hc (by rw [← hp]; exact Nat.le_mul_of_pos_right _ (Nat.two_pow_pos k))
    rw [List.length_cons, List.replicate_succ]
    simp only [val, List.map_cons]
    have hlow : d / 2 ^ k < 2 ^ (8 - k) := by rw [Nat.div_lt_iff_lt_mul (Nat.two_pow_pos k), hp]; exact hd
    have e : (d + 256 * val ds) / 2 ^ k = (d / 2 ^ k + 2 ^ (8 - k) * (val ds % 2 ^ k)) + 256 * (val ds / 2 ^ k) := by
      have h1 : d + 256 * val ds = d + 2 ^ k * (2 ^ (8 - k) * val ds) := by rw [← Nat.mul_assoc, Nat.mul_comm (2 ^ k), hp]
      rw [h1, Nat.add_mul_div_left _ _ (Nat.two_pow_pos k)]
      have h2 := Nat.div_add_mod (val ds) (2 ^ k)
      have h3 : 256 * (val ds / 2 ^ k) = 2 ^ (8 - k) * (2 ^ k * (val ds / 2 ^ k)) := by rw [← Nat.mul_assoc, hp]
      rw [h3, Nat.add_assoc, ← Nat.mul_add, Nat.add_comm (val ds % 2 ^ k), h2]
    have hlt : d / 2 ^ k + 2 ^ (8 - k) * (val ds % 2 ^ k) < 256 := by
      have h4 : val ds % 2 ^ k + 1 ≤ 2 ^ k := Nat.mod_lt _ (Nat.two_pow_pos k)
      have h5 := Nat.mul_le_mul_left (2 ^ (8 - k)) h4
      rw [hp, Nat.mul_add] at h5
      omega
    rw [e, and_cons _ _ _ _ hlt hc8, ih (fun x hx => h x (by simp [hx])), low_and _ _ _ _ hlow hc]

def p1 (d : Nat) : Nat := ((d / 2 ^ 1) &&& 85) + (d &&& 85)
def p2 (d : Nat) : Nat := ((p1 d / 2 ^ 2) &&& 51) + (p1 d &&& 51)
def p3 (d : Nat) : Nat := (p2 d / 16 + p2 d) % 16
theorem p_all : ((List.range 256).all fun d => decide (p1 d < 256) && decide (p2 d < 256) && decide (p2 d % 16 ≤ 4) && decide (p2 d / 16 ≤ 4) && decide (p3 d = (List.range 8).countP fun j => d.testBit j)) = true := by decide +kernel
theorem p_of (d : Nat) (h : d < 256) : p1 d < 256 ∧ p2 d < 256 ∧ p2 d % 16 ≤ 4 ∧ p2 d / 16 ≤ 4 ∧ p3 d = (List.range 8).countP fun j => d.testBit j := by
  have := List.all_eq_true.1 p_all d (by simpa using h)
  simp only [Bool.and_eq_true, decide_eq_true_eq] at this
  obtain ⟨⟨⟨⟨a, b⟩, c⟩, e⟩, f⟩ := this
  exact ⟨a, b, c, e, f⟩
theorem step3 (es : List Nat) (h : ∀ e ∈ es, e < 256 ∧ e % 16 ≤ 4 ∧ e / 16 ≤ 4) : (val es / 16 + val es) &&& val (List.replicate es.length 15) = val (es.map fun e => (e / 16 + e) % 16) := by
  induction es with
  | nil => rfl
  | cons e es ih =>
    obtain ⟨h1, h2, h3⟩ := h e (by simp)
    have hes : val es % 16 ≤ 4 := by
      cases es with
      | nil => simp [val]
      | cons x xs =>
        have := h x (by simp)
        simp only [val]
        omega
    rw [List.length_cons, List.replicate_succ]
    simp only [val, List.map_cons]
    have e1 : (e + 256 * val es) / 16 + (e + 256 * val es) = (e / 16 + e + 16 * (val es % 16)) + 256 * (val es / 16 + val es) := by omega
    rw [e1, and_cons _ _ _ _ (by omega) (by omega), ih (fun x hx => h x (by simp [hx]))]
    have e2 : (e / 16 + e + 16 * (val es % 16)) &&& 15 = (e / 16 + e) % 16 := by
      rw [show (15 : Nat) = 2 ^ 4 - 1 from rfl, Nat.and_two_pow_sub_one_eq_mod]
      omega
    rw [e2]

theorem pop_bytes (ds : List Nat) (h : small ds) (n : Nat) (hn : n = ds.length) : (List.range (8 * n)).countP (fun j => (val ds).testBit j) = (ds.map fun d => (List.range 8).countP fun j => d.testBit j).sum := by
  induction ds generalizing n with
  | nil => subst hn; simp
  | cons d ds ih =>
    subst hn
    have hd := h d (by simp)
    rw [List.length_cons, show 8 * (ds.length + 1) = 8 + 8 * ds.length by omega, List.range_add, List.countP_append, List.map_cons, List.sum_cons]
    congr 1
    · apply List.countP_congr
      intro j hj
      simp only [List.mem_range] at hj
      simp only [val]
      rw [testBit_cons _ _ _ hd, if_pos hj]
    · rw [← ih (fun x hx => h x (by simp [hx])) _ rfl, List.countP_map]
      apply List.countP_congr
      intro j _
      simp only [val, Function.comp]
      rw [testBit_cons _ _ _ hd, if_neg (by omega), show 8 + j - 8 = j by omega]

/-- The bytes of a word. -/
def bytesOf (x : Nat) : List Nat := [x % 256, x / 256 % 256, x / 65536 % 256, x / 16777216 % 256, x / 4294967296 % 256, x / 1099511627776 % 256, x / 281474976710656 % 256, x / 72057594037927936 % 256]
theorem val_bytesOf (x : Nat) (h : x < 18446744073709551616) : val (bytesOf x) = x := by
  simp only [bytesOf, val]
  omega
theorem small_bytesOf (x : Nat) : small (bytesOf x) := by
  intro d hd
  simp only [bytesOf, List.mem_cons, List.not_mem_nil, or_false] at hd
  omega

/-- The steps of math/bits. -/
def oc1 (x : Nat) : Nat := ((x / 2 ^ 1) &&& 6148914691236517205) + (x &&& 6148914691236517205)
def oc2 (x : Nat) : Nat := ((x / 2 ^ 2) &&& 3689348814741910323) + (x &&& 3689348814741910323)
def oc3 (x : Nat) : Nat := (x / 16 + x) &&& 1085102592571150095
theorem oc3_val (x : Nat) (h : x < 18446744073709551616) : oc3 (oc2 (oc1 x)) = val ((bytesOf x).map p3) := by
  have hs := small_bytesOf x
  have e1 : oc1 x = val ((bytesOf x).map p1) := by
    have a := shr_val 1 85 (by omega) (by omega) (bytesOf x) hs
    have b := and_val 85 (by omega) (bytesOf x) hs
    rw [val_bytesOf x h] at a b
    have hm : val (List.replicate (bytesOf x).length 85) = 6148914691236517205 := by show val (List.replicate 8 85) = _; decide
    rw [hm] at a b
    unfold oc1
    rw [a, b, val_add]
    rfl
  have s1 : small ((bytesOf x).map p1) := by
    intro d hd
    obtain ⟨y, hy, rfl⟩ := List.mem_map.1 hd
    exact (p_of y (hs y hy)).1
  have e2 : oc2 (oc1 x) = val ((bytesOf x).map p2) := by
    have a := shr_val 2 51 (by omega) (by omega) _ s1
    have b := and_val 51 (by omega) _ s1
    have hm : val (List.replicate ((bytesOf x).map p1).length 51) = 3689348814741910323 := by show val (List.replicate 8 51) = _; decide
    rw [hm] at a b
    rw [e1]
    unfold oc2
    rw [a, b, val_add, List.map_map]
    rfl
  have s2 : ∀ e ∈ (bytesOf x).map p2, e < 256 ∧ e % 16 ≤ 4 ∧ e / 16 ≤ 4 := by
    intro d hd
    obtain ⟨y, hy, rfl⟩ := List.mem_map.1 hd
    have := p_of y (hs y hy)
    exact ⟨this.2.1, this.2.2.1, this.2.2.2.1⟩
  have a := step3 _ s2
  have hm : val (List.replicate ((bytesOf x).map p2).length 15) = 1085102592571150095 := by show val (List.replicate 8 15) = _; decide
  rw [hm, List.map_map] at a
  rw [e2]
  unfold oc3
  rw [a]
  rfl
theorem fold8 (a b c d e f g h : Nat) (ha : a ≤ 8) (hb : b ≤ 8) (hc : c ≤ 8) (hd : d ≤ 8) (he : e ≤ 8) (hf : f ≤ 8) (hg : g ≤ 8) (hh : h ≤ 8) (x : Nat) (hx : x = val [a, b, c, d, e, f, g, h]) :
    x + x / 256 < 18446744073709551616 ∧ x + x / 256 + (x + x / 256) / 65536 < 18446744073709551616 ∧
      (x + x / 256 + (x + x / 256) / 65536) + (x + x / 256 + (x + x / 256) / 65536) / 4294967296 < 9223372036854775808 ∧
      ((x + x / 256 + (x + x / 256) / 65536) + (x + x / 256 + (x + x / 256) / 65536) / 4294967296) % 128 = a + b + c + d + e + f + g + h := by
  simp only [val] at hx
  obtain ⟨y, hy⟩ : ∃ y, y = x + x / 256 := ⟨_, rfl⟩
  have hy' : y = (a + b) + 256 * (b + c) + 65536 * (c + d) + 16777216 * (d + e) + 4294967296 * (e + f) + 1099511627776 * (f + g) + 281474976710656 * (g + h) + 72057594037927936 * h := by omega
  obtain ⟨z, hz⟩ : ∃ z, z = y + y / 65536 := ⟨_, rfl⟩
  have hz' : z = (a + b + c + d) + 256 * (b + c + d + e) + 65536 * (c + d + e + f) + 16777216 * (d + e + f + g) + 4294967296 * (e + f + g + h) + 1099511627776 * (f + g + h) + 281474976710656 * (g + h) + 72057594037927936 * h := by omega
  rw [← hy, ← hz]
  clear hy hz
  obtain ⟨v, hv⟩ : ∃ v, v = z / 4294967296 := ⟨_, rfl⟩
  have hv' : v = (e + f + g + h) + 256 * (f + g + h) + 65536 * (g + h) + 16777216 * h := by omega
  rw [← hv]
  clear hv
  refine ⟨by omega, by omega, by omega, by omega⟩
theorem pop_eq (x : Nat) (h : x < 18446744073709551616) : ∃ y, y = oc3 (oc2 (oc1 x)) ∧ y + y / 256 < 18446744073709551616 ∧ y + y / 256 + (y + y / 256) / 65536 < 18446744073709551616 ∧
      (y + y / 256 + (y + y / 256) / 65536) + (y + y / 256 + (y + y / 256) / 65536) / 4294967296 < 9223372036854775808 ∧
      ((y + y / 256 + (y + y / 256) / 65536) + (y + y / 256 + (y + y / 256) / 65536) / 4294967296) % 128 = pop x := by
  refine ⟨_, rfl, ?_⟩
  have hv := oc3_val x h
  have hs := small_bytesOf x
  have hb : ∀ d, d < 256 → p3 d ≤ 8 := fun d hd => by
    rw [(p_of d hd).2.2.2.2]
    have := List.countP_le_length (p := fun j => d.testBit j) (l := List.range 8)
    simpa using this
  have hp : pop x = ((bytesOf x).map p3).sum := by
    have := pop_bytes (bytesOf x) hs 8 rfl
    rw [val_bytesOf x h] at this
    unfold pop
    rw [this]
    congr 1
    apply List.map_congr_left
    intro d hd
    exact (p_of d (hs d hd)).2.2.2.2.symm
  have := fold8 _ _ _ _ _ _ _ _ (hb (x % 256) (by omega)) (hb (x / 256 % 256) (by omega)) (hb (x / 65536 % 256) (by omega)) (hb (x / 16777216 % 256) (by omega)) (hb (x / 4294967296 % 256) (by omega)) (hb (x / 1099511627776 % 256) (by omega)) (hb (x / 281474976710656 % 256) (by omega)) (hb (x / 72057594037927936 % 256) (by omega)) _ hv
  obtain ⟨q1, q2, q3, q4⟩ := this
  refine ⟨q1, q2, q3, ?_⟩
  rw [q4, hp]
  simp only [bytesOf, List.map_cons, List.map_nil, List.sum_cons, List.sum_nil]
  omega
end Go.Proofs.YtpkgfkhaiifooaaGreatDoor
