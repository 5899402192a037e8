import Derived.Test.YtbbbhalmlboapaaDoorXD
import Derived.Orders
/-
Regions whose order is drawn: what an operation looks at, and what it leaves.
-/
namespace Go.Proofs.YtbbbhalmlboapaaDoor.V
set_option linter.unusedSimpArgs false
set_option linter.unusedVariables false
open Go Go.RowKit

variable {T : Tab} {flip : Nat → Nat} {C : Callees}

def reρ (ρ : Env) (r : Option (D × St)) : Option (D × St) :=
  match r with
  | some (d, st) => some (d, { st with ρ := ρ })
  | .none => .none

theorem evalT_congr {ρ ρ' : Env} {t : TypeId} {x : Operand} (h : eval ρ' x = eval ρ x) : evalT T t ρ' x = evalT T t ρ x := by
  cases x <;> first | rfl | exact h

theorem partsV_congr {ty : Nat → TypeId} {ρ ρ' : Env} : ∀ (l : List (Nat × Operand)), (∀ x, x ∈ l.map (·.2) → eval ρ' x = eval ρ x) → partsV T ty ρ' l = partsV T ty ρ l
  | [], _ => rfl
  | (i, x) :: l, h => by
    simp only [partsV]
    rw [evalT_congr (h x (by simp)), partsV_congr l (fun y hy => h y (by simp at hy ⊢; exact .inr hy))]

theorem argsV_congr {ρ ρ' : Env} : ∀ (l : List Operand) (ts : List TypeId), (∀ x, x ∈ l → eval ρ' x = eval ρ x) → argsV T ρ' l ts = argsV T ρ l ts
  | [], ts, _ => by cases ts <;> rfl
  | x :: l, [], h => by
    simp only [argsV]
    rw [h x (by simp), argsV_congr l [] (fun y hy => h y (by simp [hy]))]
  | x :: l, t :: ts, h => by
    simp only [argsV]
    rw [evalT_congr (h x (by simp)), argsV_congr l ts (fun y hy => h y (by simp [hy]))]

theorem optV_congr {ρ ρ' : Env} {x : Option Operand} (h : ∀ y, x = some y → eval ρ' y = eval ρ y) : optV ρ' x = optV ρ x := by
  cases x with
  | none => rfl
  | some y => simp only [optV, h y rfl]

theorem map_congr {ρ ρ' : Env} {l : List Operand} (h : ∀ x, x ∈ l → eval ρ' x = eval ρ x) : l.map (eval ρ') = l.map (eval ρ) := List.map_congr_left h

theorem borrow_congr (ρ ρ' : Env) (L : List (Option (List D))) (τ : List Bool) (B : List (List D)) (d : D) : (⟨ρ', L, τ, B⟩ : St).borrow d = (⟨ρ, L, τ, B⟩ : St).borrow d := by
  cases d <;> rfl

theorem borrowL_congr (ρ ρ' : Env) (L : List (Option (List D))) (τ : List Bool) (B : List (List D)) : ∀ l : List D, (⟨ρ', L, τ, B⟩ : St).borrowL l = (⟨ρ, L, τ, B⟩ : St).borrowL l
  | [] => rfl
  | d :: l => by simp only [St.borrowL]; rw [borrow_congr ρ ρ', borrowL_congr ρ ρ' L τ B l]

theorem moveL_congr (ρ ρ' : Env) (L : List (Option (List D))) (τ0 : List Bool) (B : List (List D)) : ∀ (l : List D) (τ : List Bool), moveL (⟨ρ', L, τ0, B⟩ : St) τ l = moveL (⟨ρ, L, τ0, B⟩ : St) τ l
  | [], τ => rfl
  | d :: l, τ => by
    have ih := moveL_congr ρ ρ' L τ0 B l
    cases d
    case vec sz ys p =>
      cases p <;> simp only [moveL, ih, borrow_congr ρ ρ']
    all_goals simp only [moveL, ih, borrow_congr ρ ρ']

theorem elems_congr (ρ ρ' : Env) (L : List (Option (List D))) (τ : List Bool) (B : List (List D)) (sz : Nat) (d : D) : (⟨ρ', L, τ, B⟩ : St).elems sz d = (⟨ρ, L, τ, B⟩ : St).elems sz d := by
  cases d <;> rfl

theorem loadV_congr (ρ ρ' : Env) (L : List (Option (List D))) (τ : List Bool) (B : List (List D)) (t : TypeId) (d : D) : loadV T ⟨ρ', L, τ, B⟩ t d = loadV T ⟨ρ, L, τ, B⟩ t d := by
  unfold loadV
  have : (⟨ρ', L, τ, B⟩ : St).at_ d = (⟨ρ, L, τ, B⟩ : St).at_ d := by cases d <;> rfl
  rw [this]

theorem convV_congr (ρ ρ' : Env) (L : List (Option (List D))) (τ : List Bool) (B : List (List D)) (own : Bool) (s t : TypeId) (d : D) : convV T own s t ⟨ρ', L, τ, B⟩ d = reρ ρ' (convV T own s t ⟨ρ, L, τ, B⟩ d) := by
  unfold convV
  simp only [elems_congr ρ ρ']
  repeat' (first | rfl | split)
  all_goals (first | (cases own <;> rfl) | (cases Nat.beq s t <;> rfl))

theorem storeV_congr (ρ ρ' : Env) (L : List (Option (List D))) (τ : List Bool) (B : List (List D)) (t : TypeId) (a x : D) : storeV T ⟨ρ', L, τ, B⟩ t a x = (storeV T ⟨ρ, L, τ, B⟩ t a x).map fun s => { s with ρ := ρ' } := by
  unfold storeV
  simp only [Bool.cond_eq_ite]
  repeat' (first | rfl | split)

theorem appendV_congr (ρ ρ' : Env) (L : List (Option (List D))) (τ : List Bool) (B : List (List D)) (sz bytes : Nat) (s : D) (ys : List D) : appendV sz bytes ⟨ρ', L, τ, B⟩ s ys = reρ ρ' (appendV sz bytes ⟨ρ, L, τ, B⟩ s ys) := by
  unfold appendV
  simp only [Bool.cond_eq_ite]
  repeat' (first | rfl | split)

theorem builtinV_congr (ρ ρ' : Env) (L : List (Option (List D))) (τ : List Bool) (B : List (List D)) (b : Builtin) (ts : List TypeId) (args : List D) : builtinV T ⟨ρ', L, τ, B⟩ b ts args = reρ ρ' (builtinV T ⟨ρ, L, τ, B⟩ b ts args) := by
  unfold builtinV
  simp only [elems_congr ρ ρ', appendV_congr ρ ρ', Bool.cond_eq_ite]
  repeat' (first | rfl | split)

theorem callOpV_congr (ρ ρ' : Env) (L : List (Option (List D))) (τ : List Bool) (B : List (List D)) (fl : Nat) (f : D) (args : List D) : callOpV C fl ⟨ρ', L, τ, B⟩ f args = reρ ρ' (callOpV C fl ⟨ρ, L, τ, B⟩ f args) := by
  unfold callOpV
  simp only [borrowL_congr ρ ρ', moveL_congr ρ ρ', Bool.cond_eq_ite]
  repeat' (first | rfl | split)

theorem opV_congr (ρ ρ' : Env) (L : List (Option (List D))) (τ : List Bool) (B : List (List D)) (o : Oper) (h : ∀ x, x ∈ o.op.operands.toList → eval ρ' x = eval ρ x) :
    opV T flip C o ⟨ρ', L, τ, B⟩ = reρ ρ' (opV T flip C o ⟨ρ, L, τ, B⟩) := by
  obtain ⟨dst, op, ty, pos, af, gd⟩ := o
  cases op <;> simp only [Op.operands] at h
  case move x => simp only [opV, evalT_congr (h x (by simp))]; rfl
  case assign x => simp only [opV, evalT_congr (h x (by simp))]; rfl
  case pick c x y =>
    simp only [opV, h c (by simp), evalT_congr (h x (by simp)), evalT_congr (h y (by simp))]
    cases eval ρ c <;> rfl
  case alloc e =>
    simp only [opV, Bool.cond_eq_ite]
    repeat' (first | rfl | split)
  case box e x =>
    simp only [opV, evalT_congr (h x (by simp)), Bool.cond_eq_ite]
    repeat' (first | rfl | split)
  case makeFunc fn fs cs =>
    have e : capsV ρ' cs.toList = capsV ρ cs.toList := List.map_congr_left (fun x hx => h x (by simp; exact .inr (by simpa using hx)))
    simp only [opV, e, Bool.cond_eq_ite]
    repeat' (first | rfl | split)
  case load t x =>
    simp only [opV, h x (by simp)]
    rw [loadV_congr ρ ρ']
    cases loadV T ⟨ρ, L, τ, B⟩ t (eval ρ x) <;> rfl
  case build t parts =>
    simp only [opV]
    rw [partsV_congr parts.toList (fun x hx => h x (by simpa using hx))]
    cases buildV T t (partsV T (partTy T t) ρ parts.toList) <;> rfl
  case buildSlice t len parts =>
    have e : ∀ ty, partsV T ty ρ' parts.toList = partsV T ty ρ parts.toList := fun ty => partsV_congr parts.toList (fun x hx => h x (by simpa using hx))
    simp only [opV, e, Bool.cond_eq_ite]
    repeat' (first | rfl | split)
  case store t p x =>
    simp only [opV, h p (by simp), evalT_congr (h x (by simp))]
    rw [storeV_congr ρ ρ']
    cases storeV T ⟨ρ, L, τ, B⟩ t (eval ρ p) (evalT T t ρ x) <;> rfl
  case nilCheck x =>
    simp only [opV, h x (by simp)]
    cases eval ρ x <;> rfl
  case binOp b t x y u =>
    simp only [opV, h x (by simp), h y (by simp)]
    cases binV T b (isConst x || isConst y) t (eval ρ x) (eval ρ y) <;> rfl
  case unOp b t x =>
    simp only [opV, h x (by simp)]
    cases unV b (eval ρ x) <;> rfl
  case convert s t x =>
    simp only [opV, evalT_congr (h x (by simp))]
    exact convV_congr ρ ρ' L τ B _ s t _
  case makeInterface t x =>
    simp only [opV, evalT_congr (h x (by simp)), Bool.cond_eq_ite]
    repeat' (first | rfl | split)
  case makeSlice t l m =>
    simp only [opV, h l (by simp), h m (by simp), Bool.cond_eq_ite]
    repeat' (first | rfl | split)
  case slice t x lo hi mx =>
    have e1 := optV_congr (ρ := ρ) (ρ' := ρ') (x := lo) (fun y hy => h y (by subst hy; simp))
    have e2 := optV_congr (ρ := ρ) (ρ' := ρ') (x := hi) (fun y hy => h y (by subst hy; simp))
    have e3 := optV_congr (ρ := ρ) (ρ' := ρ') (x := mx) (fun y hy => h y (by subst hy; simp))
    simp only [opV, h x (by simp), e1, e2, e3]
    repeat' (first | rfl | split)
  case fieldAddr t x f =>
    simp only [opV, h x (by simp), Bool.cond_eq_ite]
    repeat' (first | rfl | split)
  case field t x f =>
    simp only [opV, h x (by simp)]
    repeat' (first | rfl | split)
  case indexAddr t x i =>
    simp only [opV, h x (by simp), h i (by simp)]
    repeat' (first | rfl | split)
  case index t x i =>
    simp only [opV, h x (by simp), h i (by simp)]
    repeat' (first | rfl | split)
  case extract x i =>
    simp only [opV, h x (by simp)]
    repeat' (first | rfl | split)
  case call cl =>
    simp only [opV]
    cases hc : cl.callee with
    | builtin b =>
      simp only []
      rw [argsV_congr _ _ (fun x hx => h x (by simp [Call.operands, hc]; simpa using hx))]
      exact builtinV_congr ρ ρ' L τ B _ _ _
    | value f =>
      simp only []
      rw [argsV_congr _ _ (fun x hx => h x (by simp [Call.operands, hc]; exact .inr (by simpa using hx))), h f (by simp [Call.operands, hc])]
      exact callOpV_congr ρ ρ' L τ B _ _ _
    | invoke r m => rfl
  all_goals rfl

end Go.Proofs.YtbbbhalmlboapaaDoor.V

/-
Regions whose order is drawn: what an operation leaves, and what another one makes of it.
-/
namespace Go.Proofs.YtbbbhalmlboapaaDoor.V
set_option linter.unusedSimpArgs false
set_option linter.unusedVariables false
open Go Go.RowKit

variable {T : Tab} {flip : Nat → Nat} {C : Callees}

/-- A result, and the state that it is told in. -/
def re2 (s : St) (r : Option (D × St)) : Option (D × St) :=
  match r with
  | some (d, _) => some (d, s)
  | .none => .none

theorem accP_nz {t : TypeId} {d : D} : accP (nz T t d) = accP d ∧ accW (nz T t d) = accW d := by
  cases d <;> try exact ⟨rfl, rfl⟩
  unfold nz
  constructor <;> (repeat' split) <;> rfl

theorem acc_evalT {t : TypeId} {ρ : Env} {x : Operand} : accP (evalT T t ρ x) = accP (eval ρ x) ∧ accW (evalT T t ρ x) = accW (eval ρ x) := by
  cases x <;> first | exact ⟨rfl, rfl⟩ | exact accP_nz

theorem acc_args {ρ : Env} : ∀ (l : List Operand) (ts : List TypeId), (argsV T ρ l ts).map accP = (l.map (eval ρ)).map accP ∧ (argsV T ρ l ts).map accW = (l.map (eval ρ)).map accW
  | [], ts => by cases ts <;> exact ⟨rfl, rfl⟩
  | x :: l, [] => by
    obtain ⟨h1, h2⟩ := acc_args (ρ := ρ) l []
    simp only [argsV, List.map_cons]
    exact ⟨by rw [h1], by rw [h2]⟩
  | x :: l, t :: ts => by
    obtain ⟨h1, h2⟩ := acc_args (ρ := ρ) l ts
    simp only [argsV, List.map_cons]
    exact ⟨by rw [h1, acc_evalT.1], by rw [h2, acc_evalT.2]⟩

theorem args_two_acc {ρ : Env} {l : List Operand} {ts : List TypeId} {s x : D} (h : argsV T ρ l ts = [s, x]) : ∃ s' x', l.map (eval ρ) = [s', x'] ∧ accP x' = accP x ∧ accW s' = accW s := by
  obtain ⟨h1, h2⟩ := acc_args (T := T) (ρ := ρ) l ts
  rw [h] at h1 h2
  match hl : l.map (eval ρ), h1, h2 with
  | [s', x'], h1, h2 =>
    simp only [List.map_cons, List.map_nil, List.cons.injEq, and_true] at h1 h2
    exact ⟨s', x', rfl, h1.2.symm, h2.1.symm⟩
  | [], h1, _ => simp at h1
  | [_], h1, _ => simp at h1
  | _ :: _ :: _ :: _, h1, _ => simp at h1

/-- What was there is there. -/
structure Fr (s s' : St) (A : List Acc) : Prop where
  L : ∀ i ds, s.L[i]? = some (some ds) → Acc.wrL i ∉ A → s'.L[i]? = some (some ds)
  dom : ∀ i, dom s.L i → dom s'.L i
  B : Acc.wrB ∉ A → s'.B = s.B

theorem Fr.refl (s : St) (A : List Acc) : Fr s s A := ⟨fun _ _ h _ => h, fun _ h => h, fun _ => rfl⟩

theorem Fr.app {s : St} {A : List Acc} (x : List (Option (List D))) : Fr s { s with L := s.L ++ x } A :=
  have h : ∀ (i : Nat) (ds : List D), s.L[i]? = some (some ds) → (s.L ++ x)[i]? = some (some ds) := fun i ds h => by rw [List.getElem?_append_left (List.getElem?_eq_some_iff.1 h).1]; exact h
  ⟨fun i ds hi _ => h i ds hi, fun i ⟨ds, hd⟩ => ⟨ds, h i ds hd⟩, fun _ => rfl⟩

theorem Fr.sh {s : St} {A : List Acc} (x : Hp) (h : Acc.wrB ∈ A) : Fr s { s with B := s.B ++ x } A := ⟨fun _ _ h _ => h, fun _ h => h, fun hn => absurd h hn⟩

theorem Fr.tok {s : St} {A : List Acc} (τ : List Bool) : Fr s { s with τ := τ } A := ⟨fun _ _ h _ => h, fun _ h => h, fun _ => rfl⟩

/-- What a simple operation reads. -/
structure Sees (s s2 : St) (A : List Acc) : Prop where
  L : ∀ i ds, Acc.rdL i ∈ A → s.L[i]? = some (some ds) → s2.L[i]? = some (some ds)
  B : Acc.rdB ∈ A → s2.B = s.B

theorem at_sees {s s2 : St} {A : List Acc} {a : D} {r : List D × Nat} (h : s.at_ a = some r) (hA : ∀ x, x ∈ accP a → x ∈ A) (hs : Sees s s2 A) : s2.at_ a = some r := by
  cases a with
  | lptr i off =>
    simp only [St.at_] at h ⊢
    split at h
    · rename_i ds hl
      rw [hs.L i ds (hA _ (by simp [accP])) hl]; exact h
    · cases h
  | bptr b off =>
    simp only [St.at_] at h ⊢
    rw [hs.B (hA _ (by simp [accP]))]; exact h
  | fptr ds => exact h
  | _ => cases h

theorem elems_sees {s s2 : St} {A : List Acc} {sz : Nat} {a : D} {r : List D} (h : s.elems sz a = some r) (hA : ∀ x, x ∈ accP a → x ∈ A) (hs : Sees s s2 A) : s2.elems sz a = some r := by
  cases a with
  | lsl i off len z =>
    simp only [St.elems] at h ⊢
    cases hb : (Nat.beq z 1 && Nat.beq sz 1) with
    | false => rw [hb] at h; cases h
    | true =>
      rw [hb] at h
      simp only [cond_true] at h ⊢
      split at h
      · rename_i ds hl
        rw [hs.L i ds (hA _ (by simp [accP])) hl]; exact h
      · cases h
  | _ => exact h

theorem loadV_sees {s s2 : St} {A : List Acc} {t : TypeId} {a d : D} (h : loadV T s t a = some d) (hA : ∀ x, x ∈ accP a → x ∈ A) (hs : Sees s s2 A) : loadV T s2 t a = some d := by
  unfold loadV at h ⊢
  cases ht : T t with
  | none => rw [ht] at h; cases h
  | some ti =>
    rw [ht] at h
    cases hx : s.at_ a with
    | none => rw [hx] at h; cases h
    | some r => rw [hx] at h; rw [at_sees hx hA hs]; exact h

theorem convV_sees {s s2 s' : St} {A : List Acc} {t u : TypeId} {a d : D} (h : convV T true t u s a = some (d, s')) (hA : ∀ x, x ∈ accP a → x ∈ A) (hs : Sees s s2 A) : s' = s ∧ convV T true t u s2 a = some (d, s2) := by
  unfold convV at h ⊢
  simp only [Bool.cond_eq_ite] at h ⊢
  split at h <;> try cases h
  split at h <;> try cases h
  · simp_all
  · simp_all
  · split at h <;> try cases h
    split at h <;> try cases h
    split at h <;> try cases h
    split at h <;> try cases h
    split at h <;> try cases h
    have := elems_sees (by assumption) hA hs
    simp_all
  · split at h <;> try cases h
    split at h <;> try cases h
    simp_all
  · split at h <;> try cases h
    split at h <;> try cases h
    split at h <;> try cases h
    simp_all

/-- A simple operation leaves what was, and tells the same wherever it sees the same. -/
theorem simple_spec {s s2 s' : St} {o : Oper} {d : D} {B' : Hp} (hso : simpleOp flip o = true) (h : opV T flip C o s = some (d, s')) (ho : ∀ x, x ∈ o.op.operands.toList → eval s2.ρ x = eval s.ρ x)
    (hs : Sees s s2 (accs flip s.ρ s.B B' o)) : s' = s ∧ opV T flip C o s2 = some (d, s2) := by
  obtain ⟨dst, op, ty, pos, af, gd⟩ := o
  cases op <;> simp only [Op.operands] at ho <;> simp only [simpleOp] at hso <;> try (cases hso)
  case move x => simp only [opV] at h ⊢; rw [evalT_congr (ho x (by simp))]; injection h with h; injection h with h1 h2; subst h1; subst h2; exact ⟨rfl, rfl⟩
  case assign x => simp only [opV] at h ⊢; rw [evalT_congr (ho x (by simp))]; injection h with h; injection h with h1 h2; subst h1; subst h2; exact ⟨rfl, rfl⟩
  case makeFunc fn fs cs =>
    have e : capsV s2.ρ cs.toList = capsV s.ρ cs.toList := List.map_congr_left (fun x hx => ho x (by simp; exact .inr (by simpa using hx)))
    simp only [opV, e, Bool.cond_eq_ite] at h ⊢
    repeat' (split at h <;> try cases h)
    all_goals simp_all
  case box e x =>
    have hso : flipD flip dst = 1 := beq_of hso
    simp only [opV, evalT_congr (ho x (by simp)), hso, show Nat.beq 1 0 = false from rfl, show Nat.beq 1 1 = true from rfl, Bool.cond_eq_ite] at h ⊢
    repeat' (split at h <;> try cases h)
    all_goals simp_all
  case pick c x y =>
    simp only [opV, ho c (by simp), evalT_congr (ho x (by simp)), evalT_congr (ho y (by simp))] at h ⊢
    cases hc : eval s.ρ c <;> rw [hc] at h <;> try cases h
    exact ⟨rfl, rfl⟩
  case load t x =>
    simp only [opV, ho x (by simp)] at h ⊢
    cases hl : loadV T s t (eval s.ρ x) with
    | none => rw [hl] at h; cases h
    | some d' =>
      rw [hl] at h
      rw [loadV_sees hl (fun y hy => by simp only [accs]; exact List.mem_append_right _ hy) hs]
      simp_all
  case build t parts =>
    simp only [opV] at h ⊢
    rw [partsV_congr parts.toList (fun x hx => ho x (by simpa using hx))]
    cases hb : buildV T t (partsV T (partTy T t) s.ρ parts.toList) <;> rw [hb] at h <;> simp_all
  case buildSlice t len parts =>
    have e : ∀ ty, partsV T ty s2.ρ parts.toList = partsV T ty s.ρ parts.toList := fun ty => partsV_congr parts.toList (fun x hx => ho x (by simpa using hx))
    simp only [opV, e, hso, Bool.not_true, Bool.cond_eq_ite] at h ⊢
    repeat' (split at h <;> try cases h)
    all_goals simp_all
  case nilCheck x =>
    simp only [opV, ho x (by simp)] at h ⊢
    cases hc : eval s.ρ x <;> rw [hc] at h <;> simp_all
  case binOp b t x y u =>
    simp only [opV, ho x (by simp), ho y (by simp)] at h ⊢
    cases hb : binV T b (isConst x || isConst y) t (eval s.ρ x) (eval s.ρ y) <;> rw [hb] at h <;> simp_all
  case unOp b t x =>
    simp only [opV, ho x (by simp)] at h ⊢
    cases hb : unV b (eval s.ρ x) <;> rw [hb] at h <;> simp_all
  case convert t u x =>
    simp only [opV, evalT_congr (ho x (by simp))] at h ⊢
    rw [hso] at h ⊢
    exact convV_sees h (fun y hy => by simp only [accs]; exact List.mem_append_right _ (by rw [acc_evalT.1] at hy; exact hy)) hs
  case makeInterface t x =>
    simp only [opV, evalT_congr (ho x (by simp)), Bool.cond_eq_ite] at h ⊢
    repeat' (split at h <;> try cases h)
    all_goals simp_all
  case slice t x lo hi mx =>
    have e1 := optV_congr (ρ := s.ρ) (ρ' := s2.ρ) (x := lo) (fun y hy => ho y (by subst hy; simp))
    have e2 := optV_congr (ρ := s.ρ) (ρ' := s2.ρ) (x := hi) (fun y hy => ho y (by subst hy; simp))
    have e3 := optV_congr (ρ := s.ρ) (ρ' := s2.ρ) (x := mx) (fun y hy => ho y (by subst hy; simp))
    simp only [opV, ho x (by simp), e1, e2, e3] at h ⊢
    repeat' (split at h <;> try cases h)
    all_goals simp_all
  case fieldAddr t x f =>
    simp only [opV, ho x (by simp), Bool.cond_eq_ite] at h ⊢
    repeat' (split at h <;> try cases h)
    all_goals simp_all
  case field t x f =>
    simp only [opV, ho x (by simp)] at h ⊢
    repeat' (split at h <;> try cases h)
    all_goals simp_all
  case indexAddr t x i =>
    simp only [opV, ho x (by simp), ho i (by simp)] at h ⊢
    repeat' (split at h <;> try cases h)
    all_goals simp_all
  case index t x i =>
    simp only [opV, ho x (by simp), ho i (by simp)] at h ⊢
    repeat' (split at h <;> try cases h)
    all_goals simp_all
  case extract x i =>
    simp only [opV, ho x (by simp)] at h ⊢
    repeat' (split at h <;> try cases h)
    all_goals simp_all
  case call cl =>
    cases hc : cl.callee with
    | builtin b =>
      rw [hc] at hso
      simp only [opV, hc] at h ⊢
      rw [argsV_congr _ _ (fun x hx => ho x (by simp [Call.operands, hc]; simpa using hx))]
      cases b <;> simp only at hso <;> try (cases hso)
      all_goals
        unfold builtinV at h ⊢
        try simp only at h ⊢
        repeat' (split at h <;> try cases h)
        all_goals simp_all
    | value f => rw [hc] at hso; cases hso
    | invoke r m => rw [hc] at hso; cases hso

theorem Sees.refl (s : St) (A : List Acc) : Sees s s A := ⟨fun _ _ _ h => h, fun _ => rfl⟩

theorem Fr.set {s : St} {A : List Acc} {i : Nat} {ds : List D} (hi : s.L[i]? = some (some ds)) (es : List D) (hA : Acc.wrL i ∈ A) : Fr s { s with L := s.L.set i (some es) } A :=
  ⟨fun j fs hj hn => by
    have : i ≠ j := fun e => hn (e ▸ hA)
    simp only [List.getElem?_set_ne this]; exact hj, fun j hj => dom_set hi es j hj, fun _ => rfl⟩

theorem storeV_frame {s s' : St} {t : TypeId} {a x : D} {A : List Acc} (h : storeV T s t a x = some s') (hA : ∀ y, y ∈ accW a → y ∈ A) : Fr s s' A := by
  unfold storeV at h
  simp only [Bool.cond_eq_ite] at h
  split at h <;> try cases h
  split at h <;> try cases h
  split at h <;> try cases h
  · rename_i i off
    split at h <;> try cases h
    split at h <;> try cases h
    exact Fr.set (by assumption) _ (hA _ (by simp [accW]))
  · rename_i b off
    split at h <;> try cases h
    split at h <;> try cases h
    split at h <;> try cases h
    exact ⟨fun _ _ h _ => h, fun _ h => h, fun hn => absurd (hA _ (by simp [accW])) hn⟩

theorem appendV_frame {s s' : St} {sz bytes : Nat} {x d : D} {ys : List D} {A : List Acc} (h : appendV sz bytes s x ys = some (d, s')) : Fr s s' A := by
  unfold appendV at h
  simp only [Bool.cond_eq_ite] at h
  repeat' (split at h <;> try cases h)
  all_goals first | exact Fr.refl _ _ | exact Fr.tok _

theorem convV_frame {s s' : St} {own : Bool} {t u : TypeId} {x d : D} {A : List Acc} (h : convV T own t u s x = some (d, s')) : Fr s s' A := by
  unfold convV at h
  simp only [Bool.cond_eq_ite] at h
  repeat' (split at h <;> try cases h)
  all_goals first | exact Fr.refl _ _ | exact Fr.app _

open Classical in
theorem callOpV_frame {s s' : St} {fl : Nat} {f d : D} {args : List D} {A : List Acc} (h : callOpV C fl s f args = some (d, s')) (hA : (if s'.B = s.B then Acc.rdB else Acc.wrB) ∈ A) : Fr s s' A := by
  unfold callOpV at h
  simp only [Bool.cond_eq_ite] at h
  repeat' (split at h <;> try cases h)
  · refine ⟨fun _ _ h _ => h, fun _ h => h, fun hn => ?_⟩
    split at hA
    · assumption
    · exact absurd hA hn
  · exact Fr.app _
  · exact ⟨fun _ _ h _ => h, fun _ h => h, fun _ => rfl⟩
  · refine ⟨fun _ _ h _ => h, fun _ h => h, fun hn => ?_⟩
    split at hA
    · assumption
    · exact absurd hA hn

theorem builtinV_frame {s s' : St} {b : Builtin} {ts : List TypeId} {d : D} {args : List D} {A : List Acc} (h : builtinV T s b ts args = some (d, s')) (hA : ∀ x y, b = .copy → args = [x, y] → ∀ z, z ∈ accW x → z ∈ A) : Fr s s' A := by
  unfold builtinV at h
  split at h
  · repeat' (split at h <;> try cases h)
    all_goals exact Fr.refl _ _
  · simp only [Bool.cond_eq_ite] at h
    repeat' (split at h <;> try cases h)
    exact appendV_frame h
  · split at h <;> cases h
    exact Fr.refl _ _
  · split at h <;> cases h
    exact Fr.refl _ _
  · rename_i i off len sz x
    simp only [Bool.cond_eq_ite] at h
    repeat' (split at h <;> try cases h)
    exact Fr.set (by assumption) _ (hA _ _ rfl rfl _ (by simp [accW]))
  · cases h

/-- What an operation leaves as it was. -/
theorem frame_spec {s s' : St} {o : Oper} {d : D} (h : opV T flip C o s = some (d, s')) : Fr s s' (accs flip s.ρ s.B s'.B o) := by
  by_cases hso : simpleOp flip o = true
  · have := (simple_spec (s2 := s) (B' := s'.B) hso h (fun _ _ => rfl) (Sees.refl _ _)).1
    subst this
    exact Fr.refl _ _
  · obtain ⟨dst, op, ty, pos, af, gd⟩ := o
    cases op <;> simp only [simpleOp, not_true_eq_false] at hso
    case alloc e =>
      have hA : Nat.beq (flipD flip dst) 0 = false → Acc.wrB ∈ accs flip s.ρ s.B s'.B ⟨dst, .alloc e, ty, pos, af, gd⟩ := fun hf => by simp [accs, hf]
      simp only [opV, Bool.cond_eq_ite] at h
      split at h <;> try cases h
      split at h <;> try cases h
      · exact Fr.app _
      · rename_i hf
        split at h <;> try cases h
        exact Fr.sh _ (hA (Bool.eq_false_iff.2 hf))
    case box e x =>
      have hA : Nat.beq (flipD flip dst) 0 = false → Nat.beq (flipD flip dst) 1 = false → Acc.wrB ∈ accs flip s.ρ s.B s'.B ⟨dst, .box e x, ty, pos, af, gd⟩ := fun hf hf1 => by simp [accs, hf, hf1]
      simp only [opV, Bool.cond_eq_ite] at h
      repeat' (split at h <;> try cases h)
      all_goals first | exact Fr.app _ | exact Fr.refl _ _ | exact Fr.sh _ (hA (Bool.eq_false_iff.2 (by assumption)) (Bool.eq_false_iff.2 (by assumption)))
    case store t a x =>
      simp only [opV] at h
      split at h <;> try cases h
      rename_i hst
      exact storeV_frame hst (fun y hy => by simp only [accs]; exact List.mem_append_right _ hy)
    case convert t u x =>
      simp only [opV] at h
      exact convV_frame h
    case makeSlice t l m =>
      simp only [opV, Bool.cond_eq_ite] at h
      repeat' (split at h <;> try cases h)
      all_goals first | exact Fr.refl _ _ | exact Fr.app _ | exact Fr.tok _
    case buildSlice t len parts =>
      simp only [opV, Bool.cond_eq_ite] at h
      repeat' (split at h <;> try cases h)
      all_goals first | exact Fr.refl _ _ | exact Fr.app _
    case call cl =>
      simp only [opV] at h
      cases hc : cl.callee with
      | builtin b =>
        rw [hc] at h
        simp only at h
        refine builtinV_frame h (fun x y hb hxy z hz => ?_)
        subst hb
        obtain ⟨x', y', e1, e2, e3⟩ := args_two_acc hxy
        simp only [accs, hc, e1]
        rw [← e3] at hz
        exact List.mem_append_right _ (List.mem_append_left _ hz)
      | value f =>
        rw [hc] at h
        simp only at h
        refine callOpV_frame h ?_
        simp only [accs, hc]
        exact List.mem_append_right _ (List.mem_cons_self ..)
      | invoke r m => rw [hc] at h; cases h
    all_goals (simp only [opV] at h; cases h)

theorem borrow_sees {s s2 : St} {A : List Acc} {x e : D} (h : s.borrow x = some e) (hA : ∀ y, y ∈ accP x → y ∈ A) (hs : Sees s s2 A) : s2.borrow x = some e := by
  cases x with
  | lsl i off len z =>
    simp only [St.borrow] at h ⊢
    cases hb : Nat.beq z 1 with
    | false => rw [hb] at h; cases h
    | true =>
      rw [hb] at h
      simp only [cond_true] at h ⊢
      split at h
      · rename_i ds hl
        rw [hs.L i ds (hA _ (by simp [accP])) hl]; exact h
      · cases h
  | _ => exact h

theorem borrowL_sees {s s2 : St} {A : List Acc} (hs : Sees s s2 A) : ∀ {xs es : List D}, s.borrowL xs = some es → (∀ x, x ∈ xs → ∀ y, y ∈ accP x → y ∈ A) → s2.borrowL xs = some es
  | [], es, h, _ => h
  | x :: xs, es, h, hA => by
    simp only [St.borrowL] at h ⊢
    split at h <;> try cases h
    rename_i y hy
    split at h <;> try cases h
    rename_i ys hys
    rw [borrow_sees hy (hA x (by simp)) hs, borrowL_sees hs hys (fun z hz => hA z (by simp [hz]))]

/-- What changes of the boxes: nothing, or one that there is. -/
def Chg (s : St) (A : List Acc) (f : List (Option (List D)) → List (Option (List D))) : Prop :=
  f = id ∨ ∃ i ds es, s.L[i]? = some (some ds) ∧ Acc.wrL i ∈ A ∧ f = fun L => L.set i (some es)

theorem storeV_act {s s' : St} {t : TypeId} {a x : D} {A : List Acc} (h : storeV T s t a x = some s') (hA : ∀ y, y ∈ accW a → y ∈ A) :
    ∃ f, Chg s A f ∧ s' = { s with L := f s.L, B := s'.B } ∧ ∀ s2 : St, s2.B = s.B → (∀ i ds, Acc.wrL i ∈ A → s.L[i]? = some (some ds) → s2.L[i]? = some (some ds)) → storeV T s2 t a x = some { s2 with B := s'.B, L := f s2.L } := by
  unfold storeV at h
  simp only [Bool.cond_eq_ite] at h
  split at h <;> try cases h
  rename_i ti ht
  split at h <;> try cases h
  rename_i hc
  split at h <;> try cases h
  · rename_i i off
    split at h <;> try cases h
    rename_i ds hl
    split at h <;> try cases h
    rename_i hfit
    have hi := hA (.wrL i) (by simp [accW])
    refine ⟨fun L => L.set i (some (setC ds off x.cells)), .inr ⟨i, ds, _, hl, hi, rfl⟩, rfl, fun s2 hB hw => ?_⟩
    unfold storeV
    simp only [ht, Bool.cond_eq_ite]
    rw [if_pos hc]
    simp only [hw i ds hi hl, hfit, if_true, hB]
  · rename_i b off
    split at h <;> try cases h
    rename_i ds hl
    split at h <;> try cases h
    rename_i hfit
    split at h <;> try cases h
    rename_i hg
    refine ⟨id, .inl rfl, rfl, fun s2 hB hw => ?_⟩
    unfold storeV
    simp only [ht, Bool.cond_eq_ite]
    rw [if_pos hc]
    simp only [hB, hl, hfit, hg, if_true, id]

theorem appendV_act {s s2 s' : St} {sz bytes : Nat} {x d : D} {ys : List D} (h : appendV sz bytes s x ys = some (d, s')) (hτ : s2.τ = s.τ) (hB : s2.B = s.B) :
    s'.L = s.L ∧ appendV sz bytes s2 x ys = some (d, { s2 with τ := s'.τ, B := s'.B, L := s2.L }) := by
  obtain ⟨ρ, L, τ, B⟩ := s
  obtain ⟨ρ2, L2, τ2, B2⟩ := s2
  simp only at hτ hB
  subst hτ; subst hB
  unfold appendV at h ⊢
  simp only [Bool.cond_eq_ite] at h ⊢
  repeat' (split at h <;> try cases h)
  all_goals simp_all

theorem append_act {s s2 s' : St} {ts : List TypeId} {args : List D} {d : D} {A : List Acc} (h : builtinV T s .append ts args = some (d, s')) (hA : ∀ x y, args = [x, y] → ∀ z, z ∈ accP y → z ∈ A) (hs : Sees s s2 A) (hτ : s2.τ = s.τ) (hB : s2.B = s.B) :
    s'.L = s.L ∧ builtinV T s2 .append ts args = some (d, { s2 with τ := s'.τ, B := s'.B, L := s2.L }) := by
  obtain ⟨t, u, s1, x, rfl, rfl⟩ : ∃ t u s1 x, ts = [t, u] ∧ args = [s1, x] := by
    unfold builtinV at h
    split at h <;> first | exact ⟨_, _, _, _, rfl, rfl⟩ | contradiction | (cases h; done)
  simp only [builtinV, Bool.cond_eq_ite] at h ⊢
  split at h <;> try cases h
  split at h <;> try cases h
  split at h <;> try cases h
  split at h <;> try cases h
  rename_i ys hys
  split at h <;> try cases h
  rename_i hz
  rw [elems_sees hys (hA s1 x rfl) hs]
  simp only [hz, if_false]
  exact appendV_act h hτ hB

theorem copy_act {s s' : St} {ts : List TypeId} {args : List D} {d : D} {A : List Acc} (h : builtinV T s .copy ts args = some (d, s')) (hA : ∀ x y, args = [x, y] → ∀ z, z ∈ accW x ++ accP y → z ∈ A) :
    ∃ f, Chg s A f ∧ s'.L = f s.L ∧ ∀ s2 : St, Sees s s2 A → s2.τ = s.τ → s2.B = s.B → (∀ i ds, Acc.wrL i ∈ A → s.L[i]? = some (some ds) → s2.L[i]? = some (some ds)) → builtinV T s2 .copy ts args = some (d, { s2 with τ := s'.τ, B := s'.B, L := f s2.L }) := by
  obtain ⟨t, r, i, off, len, sz, x, rfl, rfl⟩ : ∃ t r i off len sz x, ts = t :: r ∧ args = [.lsl i off len sz, x] := by
    unfold builtinV at h
    split at h <;> first | exact ⟨_, _, _, _, _, _, _, rfl, rfl⟩ | contradiction | (cases h; done)
  simp only [builtinV, Bool.cond_eq_ite] at h ⊢
  split at h <;> try cases h
  rename_i ds hrow hl
  split at h <;> try cases h
  rename_i hz
  split at h <;> try cases h
  rename_i ys hys
  split at h <;> try cases h
  rename_i hfit
  split at h <;> try cases h
  rename_i hleaf
  have hi := hA _ _ rfl (.wrL i) (by simp [accW])
  refine ⟨fun L => L.set i (some (setC ds off ys)), .inr ⟨i, ds, _, hl, hi, rfl⟩, rfl, fun s2 hs hτ hB hw => ?_⟩
  simp only [hw i ds hi hl, hz, if_true]
  rw [elems_sees hys (fun z hz => hA _ _ rfl z (List.mem_append_right _ hz)) hs]
  simp only [hrow, hfit.1, hfit.2, hleaf, and_self, if_true, hτ, hB]

theorem moveL_sees {s s2 : St} {A : List Acc} (hs : Sees s s2 A) : ∀ {xs es : List D} {τ τ' : List Bool}, moveL s τ xs = some (es, τ') → (∀ x, x ∈ xs → ∀ y, y ∈ accP x → y ∈ A) → moveL s2 τ xs = some (es, τ')
  | [], es, τ, τ', h, _ => h
  | x :: xs, es, τ, τ', h, hA => by
    have hA' : ∀ z, z ∈ xs → ∀ y, y ∈ accP z → y ∈ A := fun z hz => hA z (by simp [hz])
    have other : (∀ sz ys p, x ≠ .vec sz ys p) ∨ (∃ sz ys, x = .vec sz ys .none ∨ x = .vec sz ys .fresh ∨ x = .vec sz ys .real ∨ x = .vec sz ys .box) → moveL s2 τ (x :: xs) = some (es, τ') := fun hx => by
      have e1 : ∀ s : St, moveL s τ (x :: xs) = match s.borrow x with
          | some e => match moveL s τ xs with
            | some (es, τ') => some (e :: es, τ')
            | .none => .none
          | .none => .none := fun s => by
        rcases hx with hx | ⟨sz, ys, rfl | rfl | rfl | rfl⟩
        · cases x <;> first | rfl | exact absurd rfl (hx _ _ _)
        · rfl
        · rfl
        · rfl
        · rfl
      rw [e1] at h ⊢
      split at h <;> try cases h
      rename_i e he
      split at h <;> try cases h
      rename_i es' τ2 h2
      rw [borrow_sees he (hA x (by simp)) hs]
      simp only []
      rw [moveL_sees hs h2 hA']
    cases x with
    | vec sz ys p =>
      cases p with
      | none => exact other (.inr ⟨sz, ys, .inl rfl⟩)
      | fresh => exact other (.inr ⟨sz, ys, .inr (.inl rfl)⟩)
      | real => exact other (.inr ⟨sz, ys, .inr (.inr (.inl rfl))⟩)
      | box => exact other (.inr ⟨sz, ys, .inr (.inr (.inr rfl))⟩)
      | exact =>
        simp only [moveL] at h ⊢
        split at h <;> try cases h
        rename_i es' τ2 h2
        rw [moveL_sees hs h2 hA']
      | own i =>
        simp only [moveL] at h ⊢
        split at h <;> try cases h
        split at h <;> try cases h
        rename_i es' τ2 h2
        rw [moveL_sees hs h2 hA']
    | _ => exact other (.inl (fun sz ys p e => by cases e))

theorem callOpV_act {s s2 s' : St} {fl : Nat} {f d : D} {args : List D} {A : List Acc} (hfl : Nat.beq fl 1 = false) (h : callOpV C fl s f args = some (d, s')) (hA : ∀ x, x ∈ args → ∀ z, z ∈ accP x → z ∈ A) (hs : Sees s s2 A) (hτ : s2.τ = s.τ) (hB : s2.B = s.B) :
    s'.L = s.L ∧ callOpV C fl s2 f args = some (d, { s2 with τ := s'.τ, B := s'.B, L := s2.L }) := by
  have hbor : ∀ ds, s.borrowL args = some ds → s2.borrowL args = some ds := fun ds hb => borrowL_sees hs hb hA
  have hmov : ∀ r, moveL s s.τ args = some r → moveL s2 s2.τ args = some r := fun r hb => by rw [hτ]; exact moveL_sees hs hb hA
  obtain ⟨ρ, L, τ, B⟩ := s
  obtain ⟨ρ2, L2, τ2, B2⟩ := s2
  simp only at hτ hB
  subst hτ; subst hB
  unfold callOpV at h ⊢
  simp only [Bool.cond_eq_ite, hfl, Bool.false_and, Bool.false_eq_true, if_false] at h ⊢
  split at h <;> try cases h
  split at h
  · rename_i hfl2
    rw [if_pos hfl2]
    split at h <;> try cases h
    rename_i ds τ1 hb
    rw [hmov _ hb]
    simp only
    split at h <;> try cases h
    rename_i r B' hc
    split at h <;> try cases h
    rename_i hl
    rw [if_neg hl]
    exact ⟨rfl, rfl⟩
  · rename_i hfl2
    rw [if_neg hfl2]
    split at h <;> try cases h
    rename_i ds hb
    rw [hbor ds hb]
    simp only
    split at h <;> try cases h
    rename_i r B' hc
    split at h
    · rename_i hl
      split at h <;> try cases h
      rename_i hp
      rw [if_pos hl, if_pos hp]
      exact ⟨rfl, rfl⟩
    · rename_i hl
      injection h with h; injection h with e1 e2; subst e1; subst e2
      rw [if_neg hl]
      exact ⟨rfl, rfl⟩

theorem act_spec {s s' : St} {o : Oper} {d : D} {B' : Hp} (h1 : simpleOp flip o = false) (h2 : isAl flip o = false) (h3 : isExt flip o = false) (h : opV T flip C o s = some (d, s')) :
    ∃ f, Chg s (accs flip s.ρ s.B B' o) f ∧ s'.L = f s.L ∧ ∀ s2 : St, (∀ x, x ∈ o.op.operands.toList → eval s2.ρ x = eval s.ρ x) → s2.τ = s.τ → s2.B = s.B → Sees s s2 (accs flip s.ρ s.B B' o) →
      (∀ i ds, Acc.wrL i ∈ accs flip s.ρ s.B B' o → s.L[i]? = some (some ds) → s2.L[i]? = some (some ds)) → opV T flip C o s2 = some (d, { s2 with τ := s'.τ, B := s'.B, L := f s2.L }) := by
  obtain ⟨dst, op, ty, pos, af, gd⟩ := o
  cases op <;> simp only [Op.operands] <;> try (simp only [simpleOp] at h1; cases h1; done)
  case alloc e =>
    have h2 : Nat.beq (flipD flip dst) 0 = false := h2
    simp only [opV, h2, cond_false, Bool.cond_eq_ite, Bool.false_eq_true, if_false] at h ⊢
    split at h <;> try cases h
    split at h <;> try cases h
    rename_i ht hgl
    refine ⟨id, .inl rfl, rfl, fun s2 ho hτ hB _ _ => ?_⟩
    simp only [ht, hgl, if_true, hB, hτ, id]
  case box e x =>
    have h3 : Nat.beq (flipD flip dst) 0 = false := h3
    have h1 : Nat.beq (flipD flip dst) 1 = false := h1
    simp only [opV, h3, h1, cond_false, Bool.cond_eq_ite, Bool.false_eq_true, if_false] at h ⊢
    split at h <;> try cases h
    rename_i ti ht
    split at h <;> try cases h
    rename_i hc
    split at h <;> try cases h
    rename_i ds hds
    refine ⟨id, .inl rfl, rfl, fun s2 ho hτ hB _ _ => ?_⟩
    simp only [evalT_congr (ho x (by simp)), ht, hc, if_true, hds, hB, hτ, id]
  case makeSlice t l m => cases h3
  case convert t u x => cases h3
  case buildSlice t l p => cases h3
  case store t a x =>
    simp only [opV] at h ⊢
    split at h <;> try cases h
    rename_i st1 hst
    obtain ⟨f, e1, e2, e3⟩ := storeV_act (A := accs flip s.ρ s.B B' ⟨dst, .store t a x, ty, pos, af, gd⟩) hst (fun y hy => by simp only [accs]; exact List.mem_append_right _ hy)
    have hτ' : s'.τ = s.τ := by rw [e2]
    refine ⟨f, e1, by rw [e2], fun s2 ho hτ hB _ hw => ?_⟩
    rw [ho a (by simp), evalT_congr (ho x (by simp)), e3 s2 hB hw, hτ', ← hτ]
  case call cl =>
    cases hc : cl.callee with
    | builtin b =>
      simp only [opV, hc] at h ⊢
      generalize hA : accs flip s.ρ s.B B' ⟨dst, .call cl, ty, pos, af, gd⟩ = A
      simp only [accs, hc] at hA
      cases b <;> try (simp only [simpleOp, hc] at h1; cases h1; done)
      case append =>
        have hm : ∀ x y, argsV T s.ρ cl.args.toList cl.argTypes.toList = [x, y] → ∀ z, z ∈ accP y → z ∈ A := fun x y hxy z hz => by
          obtain ⟨x', y', e1, e2, e3⟩ := args_two_acc hxy
          rw [← hA, e1]; rw [← e2] at hz; exact List.mem_append_right _ hz
        refine ⟨id, .inl rfl, (append_act (s2 := s) h hm (Sees.refl _ _) rfl rfl).1, fun s2 ho hτ hB hs _ => ?_⟩
        rw [argsV_congr _ _ (fun x hx => ho x (by simp [Call.operands, hc]; simpa using hx))]
        exact (append_act h hm hs hτ hB).2
      case copy =>
        obtain ⟨f, e1, e2, e3⟩ := copy_act (A := A) h (fun x y hxy z hz => by
          obtain ⟨x', y', e1, e2, e3⟩ := args_two_acc hxy
          rw [← hA, e1]; rw [← e2, ← e3] at hz; exact List.mem_append_right _ hz)
        refine ⟨f, e1, e2, fun s2 ho hτ hB hs hw => ?_⟩
        rw [argsV_congr _ _ (fun x hx => ho x (by simp [Call.operands, hc]; simpa using hx))]
        exact e3 s2 hs hτ hB hw
      all_goals (exfalso; unfold builtinV at h; split at h <;> first | contradiction | (cases h; done))
    | value f =>
      have hfl : Nat.beq (flipD flip dst) 1 = false := by simpa only [isExt] using h3
      simp only [opV, hc] at h ⊢
      generalize hA : accs flip s.ρ s.B B' ⟨dst, .call cl, ty, pos, af, gd⟩ = A
      simp only [accs, hc] at hA
      have hm : ∀ x, x ∈ argsV T s.ρ cl.args.toList cl.argTypes.toList → ∀ z, z ∈ accP x → z ∈ A := fun x hx z hz => by
        rw [← hA]
        have hmem : accP x ∈ (cl.args.toList.map (eval s.ρ)).map accP := by
          rw [← (acc_args (T := T) (ρ := s.ρ) cl.args.toList cl.argTypes.toList).1]
          exact List.mem_map.2 ⟨x, hx, rfl⟩
        exact List.mem_append_right _ (List.mem_cons_of_mem _ (List.mem_flatten.2 ⟨_, hmem, hz⟩))
      refine ⟨id, .inl rfl, (callOpV_act (s2 := s) hfl h hm (Sees.refl _ _) rfl rfl).1, fun s2 ho hτ hB hs _ => ?_⟩
      rw [argsV_congr _ _ (fun x hx => ho x (by simp [Call.operands, hc]; exact .inr (by simpa using hx))), ho f (by simp [Call.operands, hc])]
      exact (callOpV_act hfl h hm hs hτ hB).2
    | invoke r m => simp only [opV, hc] at h; cases h
  all_goals (simp only [opV] at h; cases h)

theorem accs_congr {ρ ρ' : Env} {B B' : Hp} {o : Oper} (h : ∀ x, x ∈ o.op.operands.toList → eval ρ' x = eval ρ x) : accs flip ρ' B B' o = accs flip ρ B B' o := by
  obtain ⟨dst, op, ty, pos, af, gd⟩ := o
  cases op <;> simp only [Op.operands] at h
  case load t x => simp only [accs, h x (by simp)]
  case store t a x => simp only [accs, h a (by simp)]
  case convert t u x => simp only [accs, h x (by simp)]
  case call cl =>
    cases hc : cl.callee with
    | builtin b =>
      have := map_congr (l := cl.args.toList) (fun x hx => h x (by simp [Call.operands, hc]; simpa using hx))
      simp only [accs, hc, this]
    | value f =>
      have := map_congr (l := cl.args.toList) (fun x hx => h x (by simp [Call.operands, hc]; exact .inr (by simpa using hx)))
      simp only [accs, hc, this]
    | invoke r m =>
      have := map_congr (l := cl.args.toList) (fun x hx => h x (by simp [Call.operands, hc]; exact .inr (by simpa using hx)))
      simp only [accs, hc, this]
  all_goals rfl

end Go.Proofs.YtbbbhalmlboapaaDoor.V
