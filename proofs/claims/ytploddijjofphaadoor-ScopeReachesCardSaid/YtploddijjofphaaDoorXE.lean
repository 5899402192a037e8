/-
Regions whose order is drawn: what an operation looks at, and what it leaves.
-/
import Derived.Test.YtploddijjofphaaDoorXD
import Derived.Orders
namespace Go.Proofs.YtploddijjofphaaDoor.V
set_option linter.unusedSimpArgs false
set_option linter.unusedVariables false
open Go Go.RowKit

variable {T : Tab} {flip : Nat → Nat} {C : Callees}

def reρ (ρ : Env) (r : Option (D × St)) : Option (D × St) :=
  match r with
  | some (d, st) => some (d, { st with ρ := ρ })
  | .none => .none

theorem evalT_congr {ρ ρ' : Env} {t : TypeId} {x : Operand} (h : eval ρ' x = eval ρ x) : evalT T t ρ' x = evalT T t ρ x := by
  cases x <;> first | rfl | exact h

theorem partsV_congr {ty : Nat → TypeId} {ρ ρ' : Env} : ∀ (l : List (Nat × Operand)), (∀ x, x ∈ l.map (·.2) → eval ρ' x = eval ρ x) → partsV T ty ρ' l = partsV T ty ρ l
  | [], _ => rfl
  | (i, x) :: l, h => by
    simp only [partsV]
    rw [evalT_congr (h x (by simp)), partsV_congr l (fun y hy => h y (by simp at hy ⊢; exact .inr hy))]

theorem argsV_congr {ρ ρ' : Env} : ∀ (l : List Operand) (ts : List TypeId), (∀ x, x ∈ l → eval ρ' x = eval ρ x) → argsV T ρ' l ts = argsV T ρ l ts
  | [], ts, _ => by cases ts <;> rfl
  | x :: l, [], h => by
    simp only [argsV]
    rw [h x (by simp), argsV_congr l [] (fun y hy => h y (by simp [hy]))]
  | x :: l, t :: ts, h => by
    simp only [argsV]
    rw [evalT_congr (h x (by simp)), argsV_congr l ts (fun y hy => h y (by simp [hy]))]

theorem optV_congr {ρ ρ' : Env} {x : Option Operand} (h : ∀ y, x = some y → eval ρ' y = eval ρ y) : optV ρ' x = optV ρ x := by
  cases x with
  | none => rfl
  | some y => simp only [optV, h y rfl]

theorem map_congr {ρ ρ' : Env} {l : List Operand} (h : ∀ x, x ∈ l → eval ρ' x = eval ρ x) : l.map (eval ρ') = l.map (eval ρ) := List.map_congr_left h

theorem borrow_congr (ρ ρ' : Env) (L : List (Option (List D))) (τ : List Bool) (B : List (List D)) (d : D) : (⟨ρ', L, τ, B⟩ : St).borrow d = (⟨ρ, L, τ, B⟩ : St).borrow d := by
  cases d <;> rfl

theorem borrowL_congr (ρ ρ' : Env) (L : List (Option (List D))) (τ : List Bool) (B : List (List D)) : ∀ l : List D, (⟨ρ', L, τ, B⟩ : St).borrowL l = (⟨ρ, L, τ, B⟩ : St).borrowL l
  | [] => rfl
  | d :: l => by simp only [St.borrowL]; rw [borrow_congr ρ ρ', borrowL_congr ρ ρ' L τ B l]

theorem moveL_congr (ρ ρ' : Env) (L : List (Option (List D))) (τ0 : List Bool) (B : List (List D)) : ∀ (l : List D) (τ : List Bool), moveL (⟨ρ', L, τ0, B⟩ : St) τ l = moveL (⟨ρ, L, τ0, B⟩ : St) τ l
  | [], τ => rfl
  | d :: l, τ => by
    have ih := moveL_congr ρ ρ' L τ0 B l
    cases d
    case vec sz ys p =>
      cases p <;> simp only [moveL, ih, borrow_congr ρ ρ']
    all_goals simp only [moveL, ih, borrow_congr ρ ρ']

theorem elems_congr (ρ ρ' : Env) (L : List (Option (List D))) (τ : List Bool) (B : List (List D)) (sz : Nat) (d : D) : (⟨ρ', L, τ, B⟩ : St).elems sz d = (⟨ρ, L, τ, B⟩ : St).elems sz d := by
  cases d <;> rfl

theorem loadV_congr (ρ ρ' : Env) (L : List (Option (List D))) (τ : List Bool) (B : List (List D)) (t : TypeId) (d : D) : loadV T ⟨ρ', L, τ, B⟩ t d = loadV T ⟨ρ, L, τ, B⟩ t d := by
  unfold loadV
  have : (⟨ρ', L, τ, B⟩ : St).at_ d = (⟨ρ, L, τ, B⟩ : St).at_ d := by cases d <;> rfl
  rw [this]

theorem convV_congr (ρ ρ' : Env) (L : List (Option (List D))) (τ : List Bool) (B : List (List D)) (own : Bool) (s t : TypeId) (d : D) : convV T own s t ⟨ρ', L, τ, B⟩ d = reρ ρ' (convV T own s t ⟨ρ, L, τ, B⟩ d) := by
  unfold convV
  simp only [elems_congr ρ ρ']
  repeat' (first | rfl | split)
  all_goals (first | (cases own <;> rfl) | (cases Nat.beq s t <;> rfl))

theorem storeV_congr (ρ ρ' : Env) (L : List (Option (List D))) (τ : List Bool) (B : List (List D)) (t : TypeId) (a x : D) : storeV T ⟨ρ', L, τ, B⟩ t a x = (storeV T ⟨ρ, L, τ, B⟩ t a x).map fun s => { s with ρ := ρ' } := by
  unfold storeV
  simp only [Bool.cond_eq_ite]
  repeat' (first | rfl | split)

theorem appendV_congr (ρ ρ' : Env) (L : List (Option (List D))) (τ : List Bool) (B : List (List D)) (sz bytes : Nat) (s : D) (ys : List D) : appendV sz bytes ⟨ρ', L, τ, B⟩ s ys = reρ ρ' (appendV sz bytes ⟨ρ, L, τ, B⟩ s ys) := by
  unfold appendV
  simp only [Bool.cond_eq_ite]
  repeat' (first | rfl | split)

theorem builtinV_congr (ρ ρ' : Env) (L : List (Option (List D))) (τ : List Bool) (B : List (List D)) (b : Builtin) (ts : List TypeId) (args : List D) : builtinV T ⟨ρ', L, τ, B⟩ b ts args = reρ ρ' (builtinV T ⟨ρ, L, τ, B⟩ b ts args) := by
  unfold builtinV
  simp only [elems_congr ρ ρ', appendV_congr ρ ρ', Bool.cond_eq_ite]
  repeat' (first | rfl | split)

theorem callOpV_congr (ρ ρ' : Env) (L : List (Option (List D))) (τ : List Bool) (B : List (List D)) (fl : Nat) (f : D) (args : List D) : callOpV C fl ⟨ρ', L, τ, B⟩ f args = reρ ρ' (callOpV C fl ⟨ρ, L, τ, B⟩ f args) := by
  unfold callOpV
  simp only [borrowL_congr ρ ρ', moveL_congr ρ ρ', Bool.cond_eq_ite]
  repeat' (first | rfl | split)

theorem opV_congr (ρ ρ' : Env) (L : List (Option (List D))) (τ : List Bool) (B : List (List D)) (o : Oper) (h : ∀ x, x ∈ o.op.operands.toList → eval ρ' x = eval ρ x) :
    opV T flip C o ⟨ρ', L, τ, B⟩ = reρ ρ' (opV T flip C o ⟨ρ, L, τ, B⟩) := by
  obtain ⟨dst, op, ty, pos, af, gd⟩ := o
  cases op <;> simp only [Op.operands] at h
  case move x => simp only [opV, evalT_congr (h x (by simp))]; rfl
  case assign x => simp only [opV, evalT_congr (h x (by simp))]; rfl
  case pick c x y =>
    simp only [opV, h c (by simp), evalT_congr (h x (by simp)), evalT_congr (h y (by simp))]
    cases eval ρ c <;> rfl
  case alloc e =>
    simp only [opV, Bool.cond_eq_ite]
    repeat' (first | rfl | split)
  case box e x =>
    simp only [opV, evalT_congr (h x (by simp)), Bool.cond_eq_ite]
    repeat' (first | rfl | split)
  case makeFunc fn fs cs =>
    have e : capsV ρ' cs.toList = capsV ρ cs.toList := List.map_congr_left (fun x hx => h x (by simp; exact .inr (by simpa using hx)))
    simp only [opV, e, Bool.cond_eq_ite]
    repeat' (first | rfl | split)
  case load t x =>
    simp only [opV, h x (by simp)]
    rw [loadV_congr ρ ρ']
    cases loadV T ⟨ρ, L, τ, B⟩ t (eval ρ x) <;> rfl
  case build t parts =>
    simp only [opV]
    rw [partsV_congr parts.toList (fun x hx => h x (by simpa using hx))]
    cases buildV T t (partsV T (partTy T t) ρ parts.toList) <;> rfl
  case buildSlice t len parts =>
    have e : ∀ ty, partsV T ty ρ' parts.toList = partsV T ty ρ parts.toList := fun ty => partsV_congr parts.toList (fun x hx => h x (by simpa using hx))
    simp only [opV, e, Bool.cond_eq_ite]
    repeat' (first | rfl | split)
  case store t p x =>
    simp only [opV, h p (by simp), evalT_congr (h x (by simp))]
    rw [storeV_congr ρ ρ']
    cases storeV T ⟨ρ, L, τ, B⟩ t (eval ρ p) (evalT T t ρ x) <;> rfl
  case nilCheck x =>
    simp only [opV, h x (by simp)]
    cases eval ρ x <;> rfl
  case binOp b t x y u =>
    simp only [opV, h x (by simp), h y (by simp)]
    cases binV T b (isConst x || isConst y) t (eval ρ x) (eval ρ y) <;> rfl
  case unOp b t x =>
    simp only [opV, h x (by simp)]
    cases unV b (eval ρ x) <;> rfl
  case convert s t x =>
    simp only [opV, evalT_congr (h x (by simp))]
    exact convV_congr ρ ρ' L τ B _ s t _
  case makeInterface t x =>
    simp only [opV, evalT_congr (h x (by simp)), Bool.cond_eq_ite]
    repeat' (first | rfl | split)
  case makeSlice t l m =>
    simp only [opV, h l (by simp), h m (by simp), Bool.cond_eq_ite]
    repeat' (first | rfl | split)
  case slice t x lo hi mx =>
    have e1 := optV_congr (ρ := ρ) (ρ' := ρ') (x := lo) (fun y hy => h y (by subst hy; simp))
    have e2 := optV_congr (ρ := ρ) (ρ' := ρ') (x := hi) (fun y hy => h y (by subst hy; simp))
    have e3 := optV_congr (ρ := ρ) (ρ' := ρ') (x := mx) (fun y hy => h y (by subst hy; simp))
    simp only [opV, h x (by simp), e1, e2, e3]
    repeat' (first | rfl | split)
  case fieldAddr t x f =>
    simp only [opV, h x (by simp), Bool.cond_eq_ite]
    repeat' (first | rfl | split)
  case field t x f =>
    simp only [opV, h x (by simp)]
    repeat' (first | rfl | split)
  case indexAddr t x i =>
    simp only [opV, h x (by simp), h i (by simp)]
    repeat' (first | rfl | split)
  case index t x i =>
    simp only [opV, h x (by simp), h i (by simp)]
    repeat' (first | rfl | split)
  case extract x i =>
    simp only [opV, h x (by simp)]
    repeat' (first | rfl | split)
  case call cl =>
    simp only [opV]
    cases hc : cl.callee with
    | builtin b =>
      simp only []
      rw [argsV_congr _ _ (fun x hx => h x (by simp [Call.operands, hc]; simpa using hx))]
      exact builtinV_congr ρ ρ' L τ B _ _ _
    | value f =>
      simp only []
      rw [argsV_congr _ _ (fun x hx => h x (by simp [Call.operands, hc]; exact .inr (by simpa using hx))), h f (by simp [Call.operands, hc])]
      exact callOpV_congr ρ ρ' L τ B _ _ _
    | invoke r m => rfl
  all_goals rfl

end Go.Proofs.YtploddijjofphaaDoor.V
