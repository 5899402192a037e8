/-
Layer 1, for other layers: how many bits are set; the lowest, the highest.
-/
import Derived.Test.YtnhelkclkdfndaaDoorSA
namespace Go.Proofs.YtnhelkclkdfndaaDoor.V
open Go Go.RowKit
set_option linter.unusedSimpArgs false
set_option linter.unusedVariables false


structure LibInt (C : Callees) : Prop where

theorem bitsN_half {u : Nat} (h : 0 < u) : bitsN u = bitsN (u / 2) + 1 := by
  rcases (by omega : u = 1 ∨ 2 ≤ u) with rfl | h2
  · rw [bitsN_one]; rfl
  · exact bitsN_div (s := 1) h2
theorem shr1 (v : Nat) : shrV .u64 (v : Int) 1 = ((v / 2 : Nat) : Int) := shr_nat .u64 v 1 (by decide)
theorem pow_split {b : Nat} (h : 1 ≤ b) : 2 ^ b = 2 * 2 ^ (b - 1) := by
  rw [← Nat.pow_succ', Nat.succ_eq_add_one, Nat.sub_add_cancel h]
theorem pow_lt {x : Nat} (h : x < 64) : 2 ^ x < 18446744073709551616 := Nat.lt_of_lt_of_le (Nat.pow_lt_pow_right (by decide) h) (Nat.le_refl _)
theorem and_mask (v b : Nat) : v &&& (2 ^ b - 1) = v % 2 ^ b := Nat.and_two_pow_sub_one_eq_mod v b
theorem or_mask (v b : Nat) : v ||| (2 ^ b - 1) = v / 2 ^ b * 2 ^ b + (2 ^ b - 1) := by
  have h1 : v / 2 ^ b * 2 ^ b + (2 ^ b - 1) = (v / 2 ^ b * 2 ^ b) ||| (2 ^ b - 1) := by
    rw [Nat.mul_comm, Nat.two_pow_add_eq_or_of_lt (by have := Nat.pow_pos (n := b) (show 0 < 2 by decide); omega)]
  rw [h1]
  apply Nat.eq_of_testBit_eq
  intro i
  rw [Nat.testBit_or, Nat.testBit_or, Nat.testBit_two_pow_sub_one, Nat.mul_comm, Nat.testBit_two_pow_mul, Nat.testBit_div_two_pow]
  by_cases h : i < b
  · simp [h]
  · have h2 : b ≤ i := by omega
    simp [h, h2]
theorem u64_and (m n : Nat) (hm : m < 18446744073709551616) (hn : n < 18446744073709551616) : bitsV .and .u64 (m : Int) (n : Int) = ((m &&& n : Nat) : Int) := bits_nat (k := .u64) rfl .and m n hm hn
theorem u64_or (m n : Nat) (hm : m < 18446744073709551616) (hn : n < 18446744073709551616) : bitsV .or .u64 (m : Int) (n : Int) = ((m ||| n : Nat) : Int) := bits_nat (k := .u64) rfl .or m n hm hn
theorem shl_one {b : Nat} (h : b < 64) : shlV .u64 1 (b : Int) = ((2 ^ b : Nat) : Int) := by
  have h1 : min ((b : Nat) : Int).toNat IntKind.u64.bits = b := by show min _ 64 = _; omega
  rw [shlV, h1, Int.one_mul]
  have h2 : (2 : Int) ^ b = ((2 ^ b : Nat) : Int) := by rw [Int.natCast_pow]; rfl
  rw [h2, wrap_u64 (Int.natCast_nonneg _) (Int.ofNat_lt.2 (pow_lt h))]

/-! ### The plain laws -/
theorem bin_ind {p : Nat → Prop} (h0 : p 0) (h : ∀ v, 0 < v → p (v / 2) → p v) (v : Nat) : p v := by
  induction v using Nat.strongRecOn with
  | _ v ih =>
    rcases Nat.eq_zero_or_pos v with rfl | hv
    · exact h0
    · exact h v hv (ih _ (Nat.div_lt_self hv (by omega)))

def onesN (v : Nat) : Nat := if h : v = 0 then 0 else v % 2 + onesN (v / 2)
termination_by v
decreasing_by exact Nat.div_lt_self (Nat.pos_of_ne_zero h) (by omega)

theorem ones_zero : onesN 0 = 0 := by unfold onesN; rfl
theorem ones_step (v : Nat) : onesN v = v % 2 + onesN (v / 2) := by
  by_cases h : v = 0
  · subst h; simp [ones_zero]
  · rw [onesN]; simp [h]

def ctzN (v : Nat) : Nat := if h : v = 0 ∨ v % 2 = 1 then 0 else ctzN (v / 2) + 1
termination_by v
decreasing_by exact Nat.div_lt_self (Nat.pos_of_ne_zero (fun e => h (.inl e))) (by omega)

theorem ctz_odd {v : Nat} (h : v % 2 = 1) : ctzN v = 0 := by rw [ctzN]; simp [h]
theorem ctz_even {v : Nat} (h0 : 0 < v) (h : v % 2 = 0) : ctzN v = ctzN (v / 2) + 1 := by
  rw [ctzN]; rw [dif_neg (by omega)]

theorem ones_le : ∀ v, onesN v ≤ bitsN v := bin_ind (by simp [ones_zero]) (fun v hv ih => by rw [ones_step, bitsN_half hv]; omega)

theorem ones_pos : ∀ v, 0 < v → 0 < onesN v := bin_ind (p := fun v => 0 < v → 0 < onesN v) (fun h => by omega) (fun v hv ih _ => by
  rw [ones_step]
  rcases Nat.eq_zero_or_pos (v / 2) with h | h
  · omega
  · have := ih h; omega)

theorem ctz_lt : ∀ v, 0 < v → ctzN v < bitsN v := bin_ind (p := fun v => 0 < v → ctzN v < bitsN v) (fun h => by omega) (fun v hv ih _ => by
  rw [bitsN_half hv]
  rcases Nat.mod_two_eq_zero_or_one v with h | h
  · rw [ctz_even hv h]; have := ih (by omega); omega
  · rw [ctz_odd h]; omega)

/-- The bits lie between the lowest and the highest. -/
theorem ones_span : ∀ v, onesN v + ctzN v ≤ bitsN v := bin_ind (by rw [ones_zero, bitsN_zero, ctzN]; simp) (fun v hv ih => by
  rw [ones_step, bitsN_half hv]
  rcases Nat.mod_two_eq_zero_or_one v with h | h
  · rw [ctz_even hv h]; omega
  · rw [ctz_odd h]; have := ones_le (v / 2); omega)

theorem and_div2 (a b : Nat) : (a &&& b) / 2 = a / 2 &&& b / 2 := by
  apply Nat.eq_of_testBit_eq
  intro i
  rw [← Nat.testBit_add_one, Nat.testBit_and, Nat.testBit_and, Nat.testBit_add_one, Nat.testBit_add_one]

theorem and_mod2 (a b : Nat) : (a &&& b) % 2 = if a % 2 = 1 ∧ b % 2 = 1 then 1 else 0 := by
  have h := Nat.testBit_and a b 0
  simp only [Nat.testBit_zero, ← Bool.decide_and] at h
  have h := decide_eq_decide.1 h
  split
  · rename_i h1; exact h.2 h1
  · rename_i h1; have := mt h.1 h1; omega

theorem ones_less : ∀ v, 0 < v → onesN (v &&& (v - 1)) + 1 = onesN v := bin_ind (p := fun v => 0 < v → onesN (v &&& (v - 1)) + 1 = onesN v) (fun h => by omega) (fun v hv ih _ => by
  rw [ones_step, ones_step v, and_div2, and_mod2]
  rcases Nat.mod_two_eq_zero_or_one v with h | h
  · have h2 : (v - 1) / 2 = v / 2 - 1 := by omega
    rw [h2, if_neg (by omega), h]
    have := ih (by omega); omega
  · have h2 : (v - 1) / 2 = v / 2 := by omega
    rw [h2, Nat.and_self, if_neg (by omega), h]; omega)

theorem and_le_left (v : Nat) (h : 0 < v) : v &&& (v - 1) < v := by
  have := Nat.and_le_right (n := v) (m := v - 1); omega

theorem and_compl : ∀ (w u : Nat), u < 2 ^ w → u &&& (2 ^ w - 1 - u) = 0 := by
  intro w
  induction w with
  | zero => intro u h; simp at h; subst h; rfl
  | succ w ih =>
    intro u h
    rw [Nat.pow_succ] at h ⊢
    have h1 : (2 ^ w * 2 - 1 - u) / 2 = 2 ^ w - 1 - u / 2 := by omega
    have h2 : (u &&& (2 ^ w * 2 - 1 - u)) / 2 = 0 := by rw [and_div2, h1]; exact ih _ (by omega)
    have h3 := and_mod2 u (2 ^ w * 2 - 1 - u)
    rw [if_neg (by omega)] at h3
    omega

/-- Its lowest bit alone. -/
theorem low_bit : ∀ (w v : Nat), 0 < v → v < 2 ^ w → v &&& (2 ^ w - v) = 2 ^ ctzN v := by
  intro w
  induction w with
  | zero => intro v h0 h; simp at h; omega
  | succ w ih =>
    intro v h0 h
    rw [Nat.pow_succ] at h ⊢
    rcases Nat.mod_two_eq_zero_or_one v with hm | hm
    · have h1 : (2 ^ w * 2 - v) / 2 = 2 ^ w - v / 2 := by omega
      have h2 : (v &&& (2 ^ w * 2 - v)) / 2 = 2 ^ ctzN (v / 2) := by rw [and_div2, h1]; exact ih _ (by omega) (by omega)
      have h3 := and_mod2 v (2 ^ w * 2 - v)
      rw [if_neg (by omega)] at h3
      rw [ctz_even h0 hm, Nat.pow_succ]; omega
    · have h1 : (2 ^ w * 2 - v) / 2 = 2 ^ w - 1 - v / 2 := by omega
      have h2 : (v &&& (2 ^ w * 2 - v)) / 2 = 0 := by rw [and_div2, h1]; exact and_compl w _ (by omega)
      have h3 := and_mod2 v (2 ^ w * 2 - v)
      rw [if_pos (by omega)] at h3
      rw [ctz_odd hm]; omega

theorem bitsN_pow (k : Nat) : bitsN (2 ^ k) = k + 1 := by
  induction k with
  | zero => exact bitsN_one
  | succ k ih =>
    rw [bitsN_half (Nat.pow_pos (by decide)), Nat.pow_succ, Nat.mul_div_cancel _ (by decide), ih]

theorem ctz_pow_le : ∀ v, 0 < v → 2 ^ ctzN v ≤ v := bin_ind (p := fun v => 0 < v → 2 ^ ctzN v ≤ v) (fun h => by omega) (fun v hv ih _ => by
  rcases Nat.mod_two_eq_zero_or_one v with h | h
  · rw [ctz_even hv h, Nat.pow_succ]; have := ih (by omega); omega
  · rw [ctz_odd h]; omega)

/-- Without its lowest bit. -/
theorem ones_drop : ∀ v, 0 < v → onesN (v - 2 ^ ctzN v) + 1 = onesN v := bin_ind (p := fun v => 0 < v → onesN (v - 2 ^ ctzN v) + 1 = onesN v) (fun h => by omega) (fun v hv ih _ => by
  rw [ones_step, ones_step v]
  rcases Nat.mod_two_eq_zero_or_one v with h | h
  · rw [ctz_even hv h, Nat.pow_succ]
    have h1 : (v - 2 ^ ctzN (v / 2) * 2) / 2 = v / 2 - 2 ^ ctzN (v / 2) := by omega
    rw [h1, h]
    have := ih (by omega); omega
  · rw [ctz_odd h]
    have h1 : (v - 2 ^ 0) / 2 = v / 2 := by omega
    rw [h1]; omega)

/-- Its highest bit alone. -/
theorem high_bit {v : Nat} (h : 0 < v) : v / 2 ^ (bitsN v - 1) = 1 := by
  have h0 : 0 < bitsN v := by have := ctz_lt v h; omega
  have h1 := (bitsN_le v (bitsN v)).1 (Nat.le_refl _)
  have h2 : ¬ v < 2 ^ (bitsN v - 1) := fun hlt => by have := (bitsN_le v (bitsN v - 1)).2 hlt; omega
  rw [pow_split h0] at h1
  have hp : 0 < 2 ^ (bitsN v - 1) := Nat.pow_pos (by decide)
  generalize 2 ^ (bitsN v - 1) = p at h1 h2 hp ⊢
  exact Nat.div_eq_of_lt_le (by omega) (by omega)

/-! ### Ones -/
theorem tdiv2 (u : Nat) : (u : Int).tdiv 2 = ((u / 2 : Nat) : Int) := by rw [Int.tdiv_eq_ediv_of_nonneg (by omega)]; omega
theorem tmod2 (u : Nat) : (u : Int).tmod 2 = ((u % 2 : Nat) : Int) := by rw [Int.tmod_eq_emod_of_nonneg (by omega)]; omega
/-! ### Highest -/
/-! ### Lowest -/
/-- The place of the lowest bit, or -1. -/
def lowS (v : Nat) : Int := if v = 0 then -1 else ctzN v

/-- The lowest bit is set, and none below it. -/
theorem ctz_bit : ∀ v, 0 < v → v.testBit (ctzN v) = true ∧ ∀ i, i < ctzN v → v.testBit i = false := bin_ind (p := fun v => 0 < v → v.testBit (ctzN v) = true ∧ ∀ i, i < ctzN v → v.testBit i = false) (fun h => by omega) (fun v hv ih _ => by
  rcases Nat.mod_two_eq_zero_or_one v with h | h
  · rw [ctz_even hv h]
    obtain ⟨h1, h2⟩ := ih (by omega)
    refine ⟨by rw [Nat.testBit_add_one]; exact h1, fun i hi => ?_⟩
    cases i with
    | zero => rw [Nat.testBit_zero, h]; rfl
    | succ i => rw [Nat.testBit_add_one]; exact h2 i (by omega)
  · rw [ctz_odd h]
    exact ⟨by rw [Nat.testBit_zero, h]; rfl, fun i hi => by omega⟩)
theorem ctz_under {v n : Nat} (h0 : 0 < v) (h : v < 2 ^ n) : ctzN v < n := by
  rcases Nat.lt_or_ge (ctzN v) n with h1 | h1
  · exact h1
  · have := (ctz_bit v h0).1
    rw [Nat.testBit_lt_two_pow (Nat.lt_of_lt_of_le h (Nat.pow_le_pow_right (by decide) h1))] at this; cases this
theorem lowS_pos {v : Nat} (h : 0 < v) : lowS v = (ctzN v : Nat) := by unfold lowS; rw [if_neg (by omega)]

end Go.Proofs.YtnhelkclkdfndaaDoor.V
