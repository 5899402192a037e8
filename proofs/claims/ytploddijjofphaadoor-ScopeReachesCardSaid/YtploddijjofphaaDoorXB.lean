/-
Small things for evaluation.
-/
import Derived.Test.YtploddijjofphaaDoorXA
namespace Go.Proofs.YtploddijjofphaaDoor.V
set_option linter.unusedSimpArgs false
set_option linter.unusedVariables false
open Go Go.RowKit

theorem bT (b : Bool) : (b == true) = b := by cases b <;> rfl
theorem bF (b : Bool) : (b == false) = !b := by cases b <;> rfl

theorem ieq (a b : Int) : (a == b) = decide (a = b) := by
  by_cases h : a = b <;> simp [h]
theorem ine (a b : Int) : (a != b) = !decide (a = b) := by
  by_cases h : a = b <;> simp [h]

def atC (i : Nat) : Code → Code
  | .seq a b => if i = 0 then a else b
  | .cond _ a b => if i = 0 then a else b
  | .block _ c => c
  | .loop c => c
  | c => c

def subC : List Nat → Code → Code
  | [], c => c
  | i :: p, c => subC p (atC i c)

theorem wrapI {x : Int} (h1 : -9223372036854775808 ≤ x) (h2 : x ≤ 9223372036854775807) : IntKind.i64.wrap x = x := by
  rw [IntKind.wrap_i64]; omega

/-- So many parts of a text, and then another one. -/
def cutC : Nat → Code → Code → Code
  | 0, _, t => t
  | n + 1, .seq a b, t => .seq a (cutC n b t)
  | _ + 1, c, _ => c

/-- What stands behind so many parts. -/
def tlC : Nat → Code → Code
  | 0, c => c
  | n + 1, .seq _ b => tlC n b
  | _ + 1, c => c

theorem cut_tl : ∀ (n : Nat) (c : Code), cutC n c (tlC n c) = c
  | 0, _ => rfl
  | n + 1, c => by
    cases c <;> simp only [cutC, tlC]
    rw [cut_tl n]

/-- The region that a text begins with. -/
def firstM : Code → Option Nat
  | .region id _ _ => some id
  | .seq a _ => firstM a
  | .block _ c => firstM c
  | _ => .none

theorem mid_code {T : Tab} {an : An} {C : Callees} {id : Nat} {st st' : St} (e : an.mid id st = an.mid id st') : ∀ (c : Code), firstM c = some id → codeV T an C c st = codeV T an C c st' := by
  intro c
  induction c with
  | region i ops d =>
    intro h
    injection h with h; subst h
    simp only [codeV, e]
  | seq a b iha ihb =>
    intro h
    have := iha h
    simp only [codeV, this]
  | block i c ih =>
    intro h
    have := ih h
    simp only [codeV, this]
  | _ => intro h; cases h

/-- It is all one how a state looks, but for what its first region keeps. -/
theorem mid_go {T : Tab} {an : An} {C : Callees} {c : Code} {k : Kont} {id : Nat} {st st' : St} (h : firstM c = some id) (e : an.mid id st = an.mid id st') : go T an C c k st = go T an C c k st' := by
  unfold go
  rw [mid_code e c h]

/-- A loop's body, where it stands in the text. -/
theorem loop_of {T : Tab} {an : An} {C : Callees} {c c' : Code} {k : Kont} {st : St} {r : X × St} {q : Option (X × St)} (h : loopC T an C c' st = some r) (hc : c = c') (hq : goX T an C k r.1 r.2 = q) : goL T an C k (loopC T an C c st) = q := by
  subst hc; rw [h]; exact hq

/-- A loop in its place. -/
theorem in_loop {γ : Type} (F : Option (X × St) → γ) {T : Tab} {an : An} {C : Callees} {c c' : Code} {k : Kont} {st : St} {r : γ} {Q : X → St → Prop} (h : ∃ x st', loopC T an C c' st = some (x, st') ∧ Q x st') (hc : c = c')
    (hq : ∀ x st', Q x st' → F (goX T an C k x st') = r) : F (goL T an C k (loopC T an C c st)) = r := by
  obtain ⟨x, st', h, hx⟩ := h
  subst hc; rw [h]; exact hq x st' hx

/-- A loop: 'enc' tells its head's state by what changes; each round goes on with less, or it ends as told. -/
theorem loop_rule {T : Tab} {an : An} {C : Callees} {c : Code} {σ : Type} (enc : σ → St) (I : σ → Prop) (μ : σ → Nat) (Q : X → St → Prop)
    (step : ∀ s, I s → (∃ s', (∃ st', go T an C c .top (enc s) = some (.norm, st') ∧ an.at_ (firstOf c) st' = enc s') ∧ I s' ∧ μ s' < μ s) ∨ ∃ x st', go T an C c .top (enc s) = some (x, st') ∧ x ≠ .norm ∧ Q x st') :
    ∀ (s : σ) (st : St), an.at_ (firstOf c) st = enc s → I s → ∃ x st', loopC T an C c st = some (x, st') ∧ Q x st' := by
  have key : ∀ (n : Nat) (s : σ) (st : St), μ s ≤ n → an.at_ (firstOf c) st = enc s → I s → ∃ x st', loopC T an C c st = some (x, st') ∧ Q x st' := by
    intro n
    induction n with
    | zero =>
      intro s st hn hst hI
      rcases step s hI with ⟨s', _, _, h4⟩ | ⟨x, st', h1, h2, h3⟩
      · omega
      · exact ⟨x, st', loopC_done (by rw [hst]; exact h1) h2, h3⟩
    | succ n ih =>
      intro s st hn hst hI
      rcases step s hI with ⟨s', ⟨st', h1, h2⟩, h3, h4⟩ | ⟨x, st', h1, h2, h3⟩
      · obtain ⟨x, st2, h5, h6⟩ := ih s' st' (by omega) h2 h3
        exact ⟨x, st2, loopC_next (by rw [hst]; exact h1) h5, h6⟩
      · exact ⟨x, st', loopC_done (by rw [hst]; exact h1) h2, h3⟩
  exact fun s st => key (μ s) s st (Nat.le_refl _)

end Go.Proofs.YtploddijjofphaaDoor.V
