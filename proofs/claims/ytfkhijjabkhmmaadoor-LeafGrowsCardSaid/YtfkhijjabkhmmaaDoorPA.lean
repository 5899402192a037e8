/-
Layers 3 and 6, in plain: what is put is got; a reader.
-/
import Derived.Test.YtfkhijjabkhmmaaDoorYC
namespace Go.Proofs.YtfkhijjabkhmmaaDoor.V
open Go Go.RowKit
set_option linter.unusedSimpArgs false
set_option linter.unusedVariables false

theorem vnat {n : Nat} (h : n < 256) : (UInt8.ofNat n).toNat = n := by simp; omega

theorem vpow_small {v i : Nat} (h : v * 128 ^ i < 18446744073709551616) (hv : 0 < v) : i ≤ 9 ∧ (i = 9 → v ≤ 1) := by
  constructor
  · rcases Nat.lt_or_ge 9 i with h1 | h1
    · have h2 : (128 : Nat) ^ 10 ≤ 128 ^ i := Nat.pow_le_pow_right (by decide) h1
      have h3 : 1 * 128 ^ 10 ≤ v * 128 ^ i := Nat.mul_le_mul hv h2
      have : (128 : Nat) ^ 10 = 1180591620717411303424 := by decide
      omega
    · exact h1
  · rintro rfl
    have : (128 : Nat) ^ 9 = 9223372036854775808 := by decide
    omega

theorem vget_put (b : List UInt8) (v : Nat) : ∀ (i acc : Nat), (0 < i → 0 < v) → v * 128 ^ i < 18446744073709551616 → i ≤ 9 → vgetS (vputS v ++ b) i acc = (acc + v * 128 ^ i, i + (vputS v).length, 0) := by
  induction v using vputS.induct with
  | case1 v h =>
    intro i acc hi hb h9
    rw [vputS_small h]
    simp only [List.cons_append, List.nil_append, vgetS, vnat (by omega : v < 256), List.length_cons, List.length_nil]
    rw [if_neg, if_neg (by omega), if_pos h]
    rintro ⟨rfl, h1⟩
    have := (vpow_small hb (by omega)).2 rfl
    omega
  | case2 v h ih =>
    intro i acc hi hb h9
    have h8 : i < 9 := by
      have := vpow_small hb (by omega); omega
    have e1 : v = v % 128 + 128 * (v / 128) := by omega
    have e2 : v / 128 * 128 ^ (i + 1) + v % 128 * 128 ^ i = v * 128 ^ i := by
      rw [Nat.pow_succ, Nat.mul_comm (128 ^ i) 128, ← Nat.mul_assoc, ← Nat.add_mul]
      congr 1; omega
    rw [vputS_big h]
    simp only [List.cons_append, vgetS, vnat (by omega : 128 + v % 128 < 256), List.length_cons]
    rw [if_neg (by omega), if_neg (by omega), if_neg (by omega), ih (i + 1) _ (by omega) (by omega) (by omega), show 128 + v % 128 - 128 = v % 128 by omega]
    ext <;> simp only <;> omega

theorem vget_put0 (b : List UInt8) {v : Nat} (hv : v < 18446744073709551616) : vgetS (vputS v ++ b) 0 0 = (v, (vputS v).length, 0) := by
  rw [vget_put b v 0 0 (by omega) (by simpa using hv) (by omega)]; simp

theorem vget_bnd : ∀ (l : List UInt8) (i v : Nat), i ≤ 9 → v < 128 ^ i → (vgetS l i v).1 < 18446744073709551616 ∧ (vgetS l i v).2.1 ≤ i + l.length ∧ (vgetS l i v).2.1 ≤ 10 ∧ ((vgetS l i v).2.2 = 0 → i < (vgetS l i v).2.1)
  | [], i, v, hi, hv => by simp [vgetS]
  | c :: r, i, v, hi, hv => by
    have hc := c.toNat_lt
    rw [vgetS]
    split
    · simp
    · rename_i h9
      split
      · simp
      · split
        · rename_i h8
          have h1 : v + c.toNat * 128 ^ i < 18446744073709551616 := by
            have h3 := c128_lt (c := c.toNat) (i := i) h8 hi (fun h => by omega)
            rcases (by omega : i = 9 ∨ i ≤ 8) with rfl | h4
            · have : c.toNat ≤ 1 := by omega
              have h5 : (128 : Nat) ^ 9 = 9223372036854775808 := by decide
              rw [h5] at hv ⊢
              have : c.toNat * 9223372036854775808 ≤ 1 * 9223372036854775808 := Nat.mul_le_mul_right _ this
              omega
            · have h5 : (128 : Nat) ^ i ≤ 128 ^ 8 := Nat.pow_le_pow_right (by omega) h4
              have h6 : c.toNat * 128 ^ i ≤ 127 * 128 ^ 8 := Nat.mul_le_mul (by omega) h5
              have : (128 : Nat) ^ 8 = 72057594037927936 := by decide
              omega
          refine ⟨h1, by simp, by simp; omega, by simp⟩
        · rename_i h8
          have h4 : i ≤ 8 := by omega
          have := vget_bnd r (i + 1) (v + (c.toNat - 128) * 128 ^ i) (by omega) (by
            rw [Nat.pow_succ, Nat.mul_comm (128 ^ i) 128]
            have : (c.toNat - 128) * 128 ^ i ≤ 127 * 128 ^ i := Nat.mul_le_mul_right _ (by omega)
            omega)
          refine ⟨this.1, ?_, this.2.2.1, fun h => by have := this.2.2.2 h; omega⟩
          have := this.2.1
          rw [List.length_cons]; omega

/-! ### A reader: what is left; or something was wrong. -/
abbrev RS := Option (List UInt8)
def rdD : RS → List D
  | some l => [.vec 1 (l.map byteD) .none, .bool false]
  | .none => [.vec 1 [] .exact, .bool true]
/-- The number at the beginning, and what stands behind. -/
def numS (l : List UInt8) (m : Nat) : RS × Nat :=
  if (vgetS l 0 0).2.2 = 0 ∧ (vgetS l 0 0).1 ≤ m then (some (l.drop (vgetS l 0 0).2.1), (vgetS l 0 0).1) else (.none, 0)
def numP (s : RS) (m : Nat) : RS × Nat := match s with
  | some l => numS l m
  | .none => (.none, 0)
def byteP : RS → RS × Nat
  | some (c :: l) => (some l, c.toNat)
  | _ => (.none, 0)
def bytesP (s : RS) (m : Nat) : RS × List UInt8 := match numP s m with
  | (some l, n) => if n ≤ l.length then (some (l.drop n), l.take n) else (.none, [])
  | (.none, _) => (.none, [])

theorem numS_bnd (l : List UInt8) (m : Nat) : (numS l m).2 ≤ m ∧ (numS l m).2 < 18446744073709551616 := by
  unfold numS
  have := (vget_bnd l 0 0 (by omega) (by omega)).1
  split
  · rename_i h; exact ⟨h.2, this⟩
  · exact ⟨Nat.zero_le _, by show 0 < _; omega⟩
theorem numP_bnd (s : RS) (m : Nat) : (numP s m).2 ≤ m ∧ (numP s m).2 < 18446744073709551616 := by
  cases s with
  | none => exact ⟨Nat.zero_le _, by show 0 < _; omega⟩
  | some l => exact numS_bnd l m
theorem numP_zero {s : RS} {m : Nat} (h : (numP s m).1 = .none) : (numP s m).2 = 0 := by
  cases s with
  | none => rfl
  | some l =>
    unfold numP numS at h ⊢
    simp only at h ⊢
    split at h
    · cases h
    · rename_i hc; rw [if_neg hc]
theorem numS_len {l r : List UInt8} {m n : Nat} (h : numS l m = (some r, n)) : r.length < l.length := by
  unfold numS at h
  split at h
  · rename_i hc
    injection h with h _; injection h with h
    have := vget_bnd l 0 0 (by omega) (by omega)
    have h2 := this.2.2.2 hc.1
    have h3 := this.2.1
    rw [← h, List.length_drop]; omega
  · injection h with h _; cases h
theorem numS_put {v m : Nat} (b : List UInt8) (hv : v < 18446744073709551616) (hm : v ≤ m) : numS (vputS v ++ b) m = (some b, v) := by
  unfold numS
  rw [vget_put0 b hv, if_pos ⟨rfl, hm⟩]
  simp
theorem bytesP_len {s : RS} {m : Nat} {r : List UInt8} (h : (bytesP s m).1 = some r) : ∃ l, s = some l ∧ (bytesP s m).2.length ≤ m ∧ r.length + (bytesP s m).2.length < l.length := by
  cases s with
  | none => cases h
  | some l =>
    refine ⟨l, rfl, ?_⟩
    revert h
    unfold bytesP
    simp only [numP]
    have hb := numS_bnd l m
    rcases hn : numS l m with ⟨_ | q, n⟩
    · intro h; cases h
    · rw [hn] at hb
      simp only
      split
      · rename_i hle
        intro h
        injection h with h
        have := numS_len hn
        simp only at hb
        rw [← h, List.length_take, List.length_drop]; omega
      · intro h; cases h

end Go.Proofs.YtfkhijjabkhmmaaDoor.V
