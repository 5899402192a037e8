/-
Keys and spans: what the program's and the document's functions compute.
-/
import Derived.Test.YtfkhijjabkhmmaaDoorXL
import Derived.Test.YtfkhijjabkhmmaaDoorSA
namespace Go.Proofs.YtfkhijjabkhmmaaDoor.V
open Go Go.RowKit
set_option linter.unusedSimpArgs false
set_option linter.unusedVariables false



abbrev lt (a b : List UInt8) : Bool := Op.bytesLess a b
/-- A span. -/
abbrev spD (lo hi : List UInt8) (op : Bool) : D := .agg [.str lo, .str hi, .bool op]

/-! ### The order -/
theorem lt_irrefl : ∀ a : List UInt8, lt a a = false
  | [] => rfl
  | x :: a => by simp [lt, Op.bytesLess]; exact lt_irrefl a

theorem lt_cons (x y : UInt8) (a b : List UInt8) : lt (x :: a) (y :: b) = true ↔ x < y ∨ (x = y ∧ lt a b = true) := by simp [lt, Op.bytesLess]

theorem lt_trans : ∀ {a b c : List UInt8}, lt a b = true → lt b c = true → lt a c = true
  | _, _, [], _, h => by simp [lt, Op.bytesLess] at h
  | _, [], _ :: _, h, _ => by simp [lt, Op.bytesLess] at h
  | [], _ :: _, _ :: _, _, _ => by simp [lt, Op.bytesLess]
  | x :: a, y :: b, z :: c, h1, h2 => by
    rw [lt_cons] at h1 h2 ⊢
    rcases h1 with h1 | ⟨rfl, h1⟩ <;> rcases h2 with h2 | ⟨rfl, h2⟩
    · exact .inl (UInt8.lt_trans h1 h2)
    · exact .inl h1
    · exact .inl h2
    · exact .inr ⟨rfl, lt_trans h1 h2⟩

theorem lt_total : ∀ {a b : List UInt8}, lt a b = false → lt b a = false → a = b
  | [], [], _, _ => rfl
  | [], _ :: _, h, _ => by simp [lt, Op.bytesLess] at h
  | _ :: _, [], _, h => by simp [lt, Op.bytesLess] at h
  | x :: a, y :: b, h1, h2 => by
    have g1 : ¬ (x < y ∨ (x = y ∧ lt a b = true)) := fun h => by rw [← lt_cons] at h; rw [h] at h1; cases h1
    have g2 : ¬ (y < x ∨ (y = x ∧ lt b a = true)) := fun h => by rw [← lt_cons] at h; rw [h] at h2; cases h2
    have hxy : x = y := by
      rcases UInt8.lt_or_le x y with h | h
      · exact absurd (.inl h) g1
      · rcases UInt8.lt_or_eq_of_le h with h | h
        · exact absurd (.inl h) g2
        · exact h.symm
    subst hxy
    have e1 : lt a b = false := by cases h : lt a b; rfl; exact absurd (.inr ⟨rfl, h⟩) g1
    have e2 : lt b a = false := by cases h : lt b a; rfl; exact absurd (.inr ⟨rfl, h⟩) g2
    rw [lt_total e1 e2]

theorem lt_asymm {a b : List UInt8} (h : lt a b = true) : lt b a = false := by
  cases hb : lt b a with
  | false => rfl
  | true => have := lt_trans h hb; rw [lt_irrefl] at this; cases this

/-! ### Less -/
theorem u8_ne {x y : UInt8} : ((x.toNat : Int) = y.toNat) ↔ x = y := by
  constructor
  · intro h; exact UInt8.toNat_inj.1 (by omega)
  · intro h; rw [h]

/-! ### Straight ones -/

/-- What two spans have together. -/
def mLo (a b : List UInt8) : List UInt8 := if lt a b then b else a
def mHi (aop bop : Bool) (a b : List UInt8) : List UInt8 := if aop && bop then [] else if aop then b else if bop then a else if lt b a then b else a

section ref
end ref

end Go.Proofs.YtfkhijjabkhmmaaDoor.V
