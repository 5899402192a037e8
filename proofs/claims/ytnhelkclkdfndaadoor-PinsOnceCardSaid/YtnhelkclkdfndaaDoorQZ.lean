/-
For all numbers below one.
-/
import Derived.Test.YtnhelkclkdfndaaDoorXP
namespace Go.Proofs.YtnhelkclkdfndaaDoor.V
open Go Go.RowKit
set_option linter.unusedSimpArgs false
set_option linter.unusedVariables false

def allB : Nat → (Nat → Bool) → Bool
  | 0, _ => true
  | n + 1, f => allB n f && f n
theorem allB_iff {f : Nat → Bool} : ∀ {n : Nat}, allB n f = true ↔ ∀ i, i < n → f i = true
  | 0 => by simp [allB]
  | n + 1 => by
    rw [allB, Bool.and_eq_true, allB_iff]
    constructor
    · rintro ⟨h1, h2⟩ i hi
      rcases Nat.lt_or_ge i n with h | h
      · exact h1 i h
      · obtain rfl : i = n := by omega
        exact h2
    · intro h
      exact ⟨fun i hi => h i (by omega), h n (by omega)⟩
theorem allB_no {f : Nat → Bool} {n i : Nat} (hi : i < n) (h : f i = false) : allB n f = false := by
  rw [Bool.eq_false_iff]
  intro h2
  rw [allB_iff.1 h2 i hi] at h; cases h
theorem allB_ext {f g : Nat → Bool} : ∀ {n : Nat}, (∀ i, i < n → f i = g i) → allB n f = allB n g
  | 0, _ => rfl
  | n + 1, h => by rw [allB, allB, allB_ext (fun i hi => h i (by omega)), h n (by omega)]


theorem pz0 : ((0 : Nat) : Int) = 0 := rfl
theorem pnat (a : Nat) : (0 : Int) ≤ (a : Int) := Int.natCast_nonneg a

end Go.Proofs.YtnhelkclkdfndaaDoor.V
