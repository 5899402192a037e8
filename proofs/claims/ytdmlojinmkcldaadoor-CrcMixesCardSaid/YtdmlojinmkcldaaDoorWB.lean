/-
Small things for evaluation.
-/
import Derived.Test.YtdmlojinmkcldaaDoorWA
namespace Go.Proofs.YtdmlojinmkcldaaDoor.V
set_option linter.unusedSimpArgs false
set_option linter.unusedVariables false
open Go Go.RowKit

theorem bT (b : Bool) : (b == true) = b := by cases b <;> rfl
theorem bF (b : Bool) : (b == false) = !b := by cases b <;> rfl

theorem ieq (a b : Int) : (a == b) = decide (a = b) := by
  by_cases h : a = b <;> simp [h]
theorem ine (a b : Int) : (a != b) = !decide (a = b) := by
  by_cases h : a = b <;> simp [h]

def atC (i : Nat) : Code → Code
  | .seq a b => if i = 0 then a else b
  | .cond _ a b => if i = 0 then a else b
  | .block _ c => c
  | .loop c => c
  | c => c

def subC : List Nat → Code → Code
  | [], c => c
  | i :: p, c => subC p (atC i c)

theorem wrapI {x : Int} (h1 : -9223372036854775808 ≤ x) (h2 : x ≤ 9223372036854775807) : IntKind.i64.wrap x = x := by
  rw [IntKind.wrap_i64]; omega

/-- A loop's body, where it stands in the text. -/
theorem loop_of {T : Tab} {an : An} {C : Callees} {c c' : Code} {k : Kont} {st : St} {r : X × St} {q : Option (X × St)} (h : loopC T an C c' st = some r) (hc : c = c') (hq : goX T an C k r.1 r.2 = q) : goL T an C k (loopC T an C c st) = q := by
  subst hc; rw [h]; exact hq

/-- A loop in its place. -/
theorem in_loop {γ : Type} (F : Option (X × St) → γ) {T : Tab} {an : An} {C : Callees} {c c' : Code} {k : Kont} {st : St} {r : γ} {Q : X → St → Prop} (h : ∃ x st', loopC T an C c' st = some (x, st') ∧ Q x st') (hc : c = c')
    (hq : ∀ x st', Q x st' → F (goX T an C k x st') = r) : F (goL T an C k (loopC T an C c st)) = r := by
  obtain ⟨x, st', h, hx⟩ := h
  subst hc; rw [h]; exact hq x st' hx

end Go.Proofs.YtdmlojinmkcldaaDoor.V
