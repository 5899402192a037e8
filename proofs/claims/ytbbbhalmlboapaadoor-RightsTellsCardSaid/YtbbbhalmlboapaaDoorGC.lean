/-
Layer 26, in plain: rights, and their letters.
-/
import Derived.Test.YtbbbhalmlboapaaDoorIA
namespace Go.Proofs.YtbbbhalmlboapaaDoor.V
open Go Go.RowKit
set_option linter.unusedSimpArgs false
set_option linter.unusedVariables false

/-- The places of the bits, ascending. -/
def bitsR (v : Nat) : List Nat := (List.range 6).filter fun i => v.testBit i
def letR (i : Nat) : UInt8 := ([114, 119, 100, 115, 103, 97] : List UInt8).getD i 0
def lettersR (v : Nat) : List UInt8 := (bitsR v).map letR
def textS (v : Nat) : List UInt8 := if lettersR v = [] then [45] else lettersR v
/-- The single rights. -/
def onesR (v : Nat) : List D := (bitsR v).map fun i => D.int .u8 (2 ^ i : Nat)

def lo6 (v : Nat) : Nat := if v % 2 = 1 then 0 else if v / 2 % 2 = 1 then 1 else if v / 4 % 2 = 1 then 2 else if v / 8 % 2 = 1 then 3 else if v / 16 % 2 = 1 then 4 else 5

theorem ctz_lo6 {v : Nat} (h0 : 0 < v) (h : v < 64) : ctzN v = lo6 v := by
  unfold lo6
  rcases Nat.mod_two_eq_zero_or_one v with h1 | h1
  · rw [if_neg (by omega), ctz_even h0 h1]
    rcases Nat.mod_two_eq_zero_or_one (v / 2) with h2 | h2
    · rw [if_neg (by omega), ctz_even (by omega) h2, Nat.div_div_eq_div_mul]
      rcases Nat.mod_two_eq_zero_or_one (v / 4) with h3 | h3
      · rw [if_neg (by omega), ctz_even (by omega) h3, Nat.div_div_eq_div_mul]
        rcases Nat.mod_two_eq_zero_or_one (v / 8) with h4 | h4
        · rw [if_neg (by omega), ctz_even (by omega) h4, Nat.div_div_eq_div_mul]
          rcases Nat.mod_two_eq_zero_or_one (v / 16) with h5 | h5
          · rw [if_neg (by omega), ctz_even (by omega) h5, Nat.div_div_eq_div_mul]
            rw [ctz_odd (by omega)]
          · rw [if_pos h5, ctz_odd (by omega)]
        · rw [if_pos h4, ctz_odd (by omega)]
      · rw [if_pos h3, ctz_odd (by omega)]
    · rw [if_pos h2, ctz_odd (by omega)]
  · rw [if_pos h1, ctz_odd h1]

set_option maxRecDepth 100000 in
theorem bits_step : ∀ v, v < 64 → 0 < v → bitsR v = lo6 v :: bitsR (v &&& (v - 1)) ∧ (v &&& (v - 1)) < v ∧ lo6 v < 6 := by decide +kernel
theorem bits_lt {v i : Nat} (h : i ∈ bitsR v) : i < 6 := by
  unfold bitsR at h
  exact List.mem_range.1 (List.mem_filter.1 h).1
theorem bits_len (v : Nat) : (bitsR v).length ≤ 6 := by
  unfold bitsR
  exact Nat.le_trans (List.length_filter_le ..) (by rw [List.length_range]; exact Nat.le_refl _)
theorem bits_zero : bitsR 0 = [] := by decide
set_option maxRecDepth 100000 in
theorem pow_ctz : ∀ i, i < 6 → 2 ^ i < 64 ∧ 0 < 2 ^ i ∧ lo6 (2 ^ i) = i := by decide +kernel

set_option maxRecDepth 100000 in
theorem text_bits : ∀ a, a < 64 → textS a = [] → False := by decide +kernel
/-- The rights of any letters. -/
def idxR (c : UInt8) : Option Nat := if c = 114 then some 0 else if c = 119 then some 1 else if c = 100 then some 2 else if c = 115 then some 3 else if c = 103 then some 4 else if c = 97 then some 5 else none
def stepR (r : Nat) (c : UInt8) : Nat := match idxR c with
  | some i => r ||| 2 ^ i
  | none => r
def parseR (s : List UInt8) : Nat := s.foldl stepR 0
set_option maxRecDepth 100000 in
theorem parse_text : ∀ a, a < 64 → parseR (textS a) = a := by decide +kernel
theorem text_inj {a b : Nat} (ha : a < 64) (hb : b < 64) (h : textS a = textS b) : a = b := by
  rw [← parse_text a ha, h, parse_text b hb]
theorem idxR_lt {c : UInt8} {i : Nat} (h : idxR c = some i) : i < 6 := by
  unfold idxR at h
  repeat' split at h
  all_goals first
    | (injection h with h; omega)
    | cases h
theorem stepR_lt {r : Nat} (h : r < 64) (c : UInt8) : stepR r c < 64 := by
  unfold stepR
  split
  · rename_i i hi
    exact Nat.or_lt_two_pow (n := 6) h (Nat.pow_lt_pow_right (by decide) (idxR_lt hi))
  · exact h
theorem parseR_lt (s : List UInt8) : parseR s < 64 := by
  unfold parseR
  have : ∀ (s : List UInt8) (r : Nat), r < 64 → s.foldl stepR r < 64 := by
    intro s
    induction s with
    | nil => intro r h; exact h
    | cons c s ih => intro r h; exact ih _ (stepR_lt h c)
  exact this s 0 (by decide)

end Go.Proofs.YtbbbhalmlboapaaDoor.V
