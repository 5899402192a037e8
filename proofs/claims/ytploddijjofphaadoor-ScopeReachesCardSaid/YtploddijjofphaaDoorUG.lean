/-
The operations on numbers, texts, bools and values of several cells.
-/
import Derived.Test.YtploddijjofphaaDoorUF
import Derived.Laws.Strings
import Derived.LaidEql
import Derived.WideLaws
import Derived.WalkSpells
namespace Go.Proofs.YtploddijjofphaaDoor.V
set_option linter.unusedSimpArgs false
set_option linter.unusedVariables false
open Go Go.RowKit

variable {c : Cx} {g : Gh} {nL : Nat → Prop} {nT : Nat} {w : World}

theorem run_strV {P : Program} {op : BinOp} {x y : ByteArray} {d : D} (h : strV op x.data.toList y.data.toList = some d) (w : World) :
    ∃ v, (Op.stringOp op x y).run P w = .ok v w ∧ ∀ bx s w, Rep bx s w d v := by
  unfold strV at h
  unfold Op.stringOp
  simp only [ByteArray.toList_eq]
  cases op <;> simp only [reduceCtorEq] at h
  case add =>
    split at h
    · rename_i hl
      injection h with h; subst h
      have hl' : x.size + y.size ≤ 9223372036854775807 := by simpa using hl
      refine ⟨.string (x ++ y), ?_, fun bx s w => ?_⟩
      · rw [if_neg (by simp only [IntKind.max, IntKind.signed, IntKind.bits]; simp; omega)]; rfl
      · have := Rep.str (bx := bx) (s := s) (w := w) (x ++ y)
        simpa using this
    · cases h
  all_goals (injection h with h; subst h; exact ⟨_, rfl, fun _ _ _ => .bool _⟩)

theorem run_binOp_str {P : Program} {op : BinOp} (t : TypeId) {x y : ByteArray} {d : D} (h : strV op x.data.toList y.data.toList = some d) (w : World) :
    ∃ v, (binOp op t (.string x) (.string y)).run P w = .ok v w ∧ ∀ bx s w, Rep bx s w d v := by
  obtain ⟨v, hr, hd⟩ := run_strV (P := P) h w
  refine ⟨v, ?_, hd⟩
  have : binOp op t (.string x) (.string y) = Op.stringOp op x y := by cases op <;> rfl
  rw [this]; exact hr

theorem run_binOp_int {P : Program} {op : BinOp} (t : TypeId) {k : IntKind} {a b : Int} {d : D} (h1 : op ≠ .shl) (h2 : op ≠ .shr) (h : intV op k a b = some d) (w : World) :
    ∃ v, (binOp op t (.int k a) (.int k b)).run P w = .ok v w ∧ ∀ bx s w, Rep bx s w d v := by
  unfold intV at h
  cases op <;> simp only [reduceCtorEq] at h <;> first | exact absurd rfl h1 | exact absurd rfl h2 | skip
  case quo =>
    split at h
    · cases h
    · rename_i hb; injection h with h; subst h
      exact ⟨_, by simp [binOp, Op.intDiv, hb], fun _ _ _ => .int _ _⟩
  case rem =>
    split at h
    · cases h
    · rename_i hb; injection h with h; subst h
      exact ⟨_, by simp [binOp, Op.intDiv, hb], fun _ _ _ => .int _ _⟩
  case and => injection h with h; subst h; exact ⟨_, by simp [binOp]; exact bits_back .and k a b w P (by simp), fun _ _ _ => .int _ _⟩
  case or => injection h with h; subst h; exact ⟨_, by simp [binOp]; exact bits_back .or k a b w P (by simp), fun _ _ _ => .int _ _⟩
  case xor => injection h with h; subst h; exact ⟨_, by simp [binOp]; exact bits_back .xor k a b w P (by simp), fun _ _ _ => .int _ _⟩
  case andNot => injection h with h; subst h; exact ⟨_, by simp [binOp]; exact bits_back .andNot k a b w P (by simp), fun _ _ _ => .int _ _⟩
  case add => injection h with h; subst h; exact ⟨_, by simp [binOp, Op.intArith], fun _ _ _ => .int _ _⟩
  case sub => injection h with h; subst h; exact ⟨_, by simp [binOp, Op.intArith], fun _ _ _ => .int _ _⟩
  case mul => injection h with h; subst h; exact ⟨_, by simp [binOp, Op.intArith], fun _ _ _ => .int _ _⟩
  all_goals (injection h with h; subst h; exact ⟨_, by simp [binOp, Op.intCmp], fun _ _ _ => .bool _⟩)

theorem run_shift {P : Program} (t : TypeId) {k k' : IntKind} {a b : Int} (hb : ¬ b < 0) (w : World) :
    (binOp .shl t (.int k a) (.int k' b)).run P w = .ok (.int k (shlV k a b)) w ∧ (binOp .shr t (.int k a) (.int k' b)).run P w = .ok (.int k (shrV k a b)) w := by
  constructor <;> simp [binOp, Op.shift, hb, shlV, shrV] <;> rfl

theorem run_eqGuard_other {P : Program} (op : BinOp) (t : TypeId) (x y : Operand) (a b : Value) (w : World) (h : match a, b with | .nilIface, .nilIface => False | .agg _, .agg _ => False | _, _ => True) :
    (eqGuard op t x y a b).run P w = .ok () w := by
  cases a <;> cases b <;> first | exact h.elim | (unfold eqGuard; split <;> rfl)

theorem rep_eqOp {op : BinOp} {b : Bool} {d : D} (h : eqOp op b = some d) : (op = .eql ∧ d = .bool b) ∨ (op = .neq ∧ d = .bool !b) := by
  unfold eqOp at h
  split at h
  · injection h with h; exact .inl ⟨rfl, h.symm⟩
  · injection h with h; exact .inr ⟨rfl, h.symm⟩
  · cases h

/-- '==' and '!=' by what 'equal' tells. -/
theorem run_binOp_eq {P : Program} {op : BinOp} {t : TypeId} {u v : Value} {b : Bool} {d : D} (h : eqOp op b = some d) (w : World) (he : (Op.equal t u v).run P w = .ok b w)
    (h1 : ∀ k n, u ≠ .int k n) (h2 : ∀ k n, u ≠ .float k n) (h3 : ∀ k n m, u ≠ .complex k n m) (h4 : ∀ s, u ≠ .string s) :
    ∃ r, (binOp op t u v).run P w = .ok r w ∧ ∀ bx s w, Rep bx s w d r := by
  rcases rep_eqOp h with ⟨rfl, rfl⟩ | ⟨rfl, rfl⟩
  · refine ⟨.bool b, ?_, fun _ _ _ => .bool _⟩
    have : binOp .eql t u v = (do pure (.bool (← Op.equal t u v))) := by
      cases u <;> first | exact absurd rfl (h1 _ _) | exact absurd rfl (h2 _ _) | exact absurd rfl (h3 _ _ _) | exact absurd rfl (h4 _) | rfl
    rw [this]; simp [he]
  · refine ⟨.bool !b, ?_, fun _ _ _ => .bool _⟩
    have : binOp .neq t u v = (do pure (.bool (!(← Op.equal t u v)))) := by
      cases u <;> first | exact absurd rfl (h1 _ _) | exact absurd rfl (h2 _ _) | exact absurd rfl (h3 _ _ _) | exact absurd rfl (h4 _) | rfl
    rw [this]; simp [he]

end Go.Proofs.YtploddijjofphaaDoor.V
