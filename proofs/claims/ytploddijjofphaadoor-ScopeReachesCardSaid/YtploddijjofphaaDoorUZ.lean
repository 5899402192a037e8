/-
How the interpreter is evaluated, step by step, over values that are not known: what is still to be done is data, so nothing is looked into ahead of its turn.
-/
import Derived.Test.YtploddijjofphaaDoorUY
namespace Go.Proofs.YtploddijjofphaaDoor.V
set_option linter.unusedSimpArgs false
set_option linter.unusedVariables false
open Go Go.RowKit

/-- What is still to be done. -/
inductive Kont where
  | top
  | seq (b : Code) (k : Kont)
  | block (id : Nat) (k : Kont)

noncomputable def app (T : Tab) (an : An) (C : Callees) : Kont → Option (X × St) → Option (X × St)
  | .top, r => r
  | .seq b k, r => app T an C k (match r with
    | some (.norm, st) => codeV T an C b st
    | r => r)
  | .block id k, r => app T an C k (match r with
    | some (.exit i, st) => bif Nat.beq i id then some (.norm, st) else some (.exit i, st)
    | r => r)

noncomputable def go (T : Tab) (an : An) (C : Callees) (c : Code) (k : Kont) (st : St) : Option (X × St) := app T an C k (codeV T an C c st)
noncomputable def goX (T : Tab) (an : An) (C : Callees) (k : Kont) (x : X) (st : St) : Option (X × St) := app T an C k (some (x, st))
noncomputable def goOps (d : Bool) (T : Tab) (an : An) (C : Callees) (ops rest : List Oper) (k : Kont) (st : St) : Option (X × St) := app T an C k (match opsV T an.flip (CC d C) ops rest st with
  | some st' => some (.norm, st')
  | .none => .none)
noncomputable def goOp (e : Bool) (T : Tab) (an : An) (C : Callees) (r : Option (D × St)) (ρ : Env) (dst : Option Tmp) (ops rest : List Oper) (k : Kont) : Option (X × St) :=
  match r with
  | some (d, st') => goOps e T an C ops rest k { st' with ρ := put ρ dst d }
  | .none => app T an C k .none
noncomputable def goIf (e : Bool) (T : Tab) (an : An) (C : Callees) (b : Option Bool) (o : Oper) (ops rest : List Oper) (k : Kont) (st : St) : Option (X × St) :=
  match b with
  | some true => goOp e T an C (opV T an.flip (CC e C) o st) st.ρ o.dst ops rest k
  | some false => goOps e T an C ops rest k { st with ρ := put st.ρ o.dst (.tuple []) }
  | .none => app T an C k .none
noncomputable def goDyn (T : Tab) (an : An) (C : Callees) (ops rest : List Oper) (acc : List (List Acc)) (k : Kont) (st : St) : Option (X × St) := app T an C k (match runD T an.flip C ops rest st with
  | some (st', l) => bif okAccs ops (acc ++ l) then some (.norm, st') else .none
  | .none => .none)
noncomputable def goDynS (T : Tab) (an : An) (C : Callees) (ops rest : List Oper) (acc : List (List Acc)) (k : Kont) (r : Option (St × List Acc)) : Option (X × St) :=
  match r with
  | some (st, a) => goDyn T an C ops rest (acc ++ [a]) k st
  | .none => app T an C k .none
noncomputable def goCond (T : Tab) (an : An) (C : Callees) (d : D) (x y : Code) (k : Kont) (st : St) : Option (X × St) :=
  match d with
  | .bool true => go T an C x k st
  | .bool false => go T an C y k st
  | _ => app T an C k .none
noncomputable def loopC (T : Tab) (an : An) (C : Callees) (c : Code) (st : St) : Option (X × St) := loopW (fun s => go T an C c .top (an.at_ (firstOf c) s)) st
noncomputable def goL (T : Tab) (an : An) (C : Callees) (k : Kont) (r : Option (X × St)) : Option (X × St) := app T an C k r

noncomputable def fin (T : Tab) (res : List ResultVar) (cut : Bool) (B : Hp) (r : Option (X × St)) : Option (D × Hp) :=
  match r with
  | some (.exit _, _) => .none
  | some (_, st) => match retV T res st with
    | some r => endV cut B r st.B
    | .none => .none
  | .none => .none

theorem nbeq (a b : Nat) : Nat.beq a b = decide (a = b) := by
  cases h : Nat.beq a b
  · simp; intro e; subst e; simp at h
  · simp; exact Nat.eq_of_beq_eq_true h

theorem nble (a b : Nat) : Nat.ble a b = decide (a ≤ b) := by
  cases h : Nat.ble a b
  · simp; exact Nat.not_le.1 (fun hle => by rw [Nat.ble_eq_true_of_le hle] at h; cases h)
  · simp; exact Nat.le_of_ble_eq_true h

variable {T : Tab} {an : An} {C : Callees}

theorem e_skip (k : Kont) (st : St) : go T an C .skip k st = goX T an C k .norm st := rfl
theorem e_exit (id : Nat) (k : Kont) (st : St) : go T an C (.exit id) k st = goX T an C k (.exit id) st := rfl
theorem e_ret (k : Kont) (st : St) : go T an C .ret k st = goX T an C k .ret st := rfl
theorem e_seq (a b : Code) (k : Kont) (st : St) : go T an C (.seq a b) k st = go T an C a (.seq b k) st := by
  simp only [go, codeV, app]
  cases codeV T an C a st with
  | none => rfl
  | some r => obtain ⟨x, st'⟩ := r; cases x <;> rfl
theorem e_block (id : Nat) (c : Code) (k : Kont) (st : St) : go T an C (.block id c) k st = go T an C c (.block id k) st := by
  simp only [go, codeV, app]
  cases codeV T an C c st with
  | none => rfl
  | some r => obtain ⟨x, st'⟩ := r; cases x <;> rfl
theorem e_region (id : Nat) (ops : Array Oper) (d : Bool) (k : Kont) (st : St) : go T an C (.region id ops d) k st = bif d && an.dyn id then goDyn T an C ops.toList ops.toList [] k (an.mid id st) else goOps d T an C ops.toList ops.toList k (an.mid id st) := by
  cases h : (d && an.dyn id) with
  | false =>
    simp only [go, codeV, goOps, regionV, h, cond_false]
    cases opsV T an.flip (CC d C) ops.toList ops.toList (an.mid id st) <;> rfl
  | true =>
    simp only [go, codeV, goDyn, regionV, h, cond_true, List.nil_append]
    cases runD T an.flip C ops.toList ops.toList (an.mid id st) with
    | none => rfl
    | some r =>
      obtain ⟨s, l⟩ := r
      simp only []
      cases okAccs ops.toList l <;> rfl
/-- All of the region has run: what was touched fits. -/
theorem dyn_done {γ : Type} (F : Option (X × St) → γ) {ops : List Oper} {acc : List (List Acc)} {k : Kont} {st : St} {r : γ} (h : okAccs ops acc = true) (e : F (goX T an C k .norm st) = r) : F (goDyn T an C ops [] acc k st) = r := by
  rw [← e]
  simp only [goDyn, runD, List.append_nil, h, cond_true, goX]
theorem e_dyn (ops rest : List Oper) (acc : List (List Acc)) (o : Oper) (k : Kont) (st : St) : goDyn T an C ops (o :: rest) acc k st = goDynS T an C ops rest acc k (stepD T an.flip C ops o st) := by
  simp only [goDyn, goDynS, runD]
  cases stepD T an.flip C ops o st with
  | none => rfl
  | some r =>
    obtain ⟨s, a⟩ := r
    simp only []
    cases runD T an.flip C ops rest s with
    | none => rfl
    | some q => simp
theorem e_dynS (ops rest : List Oper) (acc : List (List Acc)) (a : List Acc) (k : Kont) (st : St) : goDynS T an C ops rest acc k (some (st, a)) = goDyn T an C ops rest (acc ++ [a]) k st := rfl
theorem keepB_of {f : FuncId} {args : List D} {B : Hp} {r : D} (h : C f args B = some (r, B)) : keepB C f args B = some (r, B) := by
  unfold keepB
  rw [h]
  simp
theorem e_cond (c : Operand) (x y : Code) (k : Kont) (st : St) : go T an C (.cond c x y) k st = goCond T an C (eval st.ρ c) x y k st := by
  simp only [go, codeV, goCond]
  cases eval st.ρ c <;> try rfl
  rename_i t
  cases t <;> rfl
theorem e_true (x y : Code) (k : Kont) (st : St) : goCond T an C (.bool true) x y k st = go T an C x k st := rfl
theorem e_false (x y : Code) (k : Kont) (st : St) : goCond T an C (.bool false) x y k st = go T an C y k st := rfl
theorem e_loop (c : Code) (k : Kont) (st : St) : go T an C (.loop c) k st = goL T an C k (loopC T an C c st) := rfl
theorem e_l (x : X) (k : Kont) (st : St) : goL T an C k (some (x, st)) = goX T an C k x st := rfl
theorem e_top (x : X) (st : St) : goX T an C .top x st = some (x, st) := rfl
theorem e_seqN (b : Code) (k : Kont) (st : St) : goX T an C (.seq b k) .norm st = go T an C b k st := rfl
theorem e_seqE (b : Code) (k : Kont) (i : Nat) (st : St) : goX T an C (.seq b k) (.exit i) st = goX T an C k (.exit i) st := rfl
theorem e_seqR (b : Code) (k : Kont) (st : St) : goX T an C (.seq b k) .ret st = goX T an C k .ret st := rfl
theorem e_blockN (id : Nat) (k : Kont) (st : St) : goX T an C (.block id k) .norm st = goX T an C k .norm st := rfl
theorem e_blockR (id : Nat) (k : Kont) (st : St) : goX T an C (.block id k) .ret st = goX T an C k .ret st := rfl
theorem e_blockE (id i : Nat) (k : Kont) (st : St) : goX T an C (.block id k) (.exit i) st = if i = id then goX T an C k .norm st else goX T an C k (.exit i) st := by
  simp only [goX, app, nbeq]
  by_cases h : i = id <;> simp [h]
theorem e_nil (e : Bool) (ops : List Oper) (k : Kont) (st : St) : goOps e T an C ops [] k st = goX T an C k .norm st := rfl
theorem e_plain (e : Bool) (ops rest : List Oper) (dst : Option Tmp) (op : Op) (ty : TypeId) (pos : String) (af : Array Edge) (k : Kont) (st : St) :
    goOps e T an C ops (⟨dst, op, ty, pos, af, .none⟩ :: rest) k st = goOp e T an C (opV T an.flip (CC e C) ⟨dst, op, ty, "", #[], .none⟩ st) st.ρ dst ops rest k := by
  have : opV T an.flip (CC e C) ⟨dst, op, ty, "", #[], .none⟩ st = opV T an.flip (CC e C) ⟨dst, op, ty, pos, af, .none⟩ st := rfl
  rw [this]
  simp only [goOps, opsV, wantedV, goOp]
  cases opV T an.flip (CC e C) ⟨dst, op, ty, pos, af, .none⟩ st <;> rfl
theorem e_op (e : Bool) (d : D) (st : St) (ρ : Env) (dst : Option Tmp) (ops rest : List Oper) (k : Kont) : goOp e T an C (some (d, st)) ρ dst ops rest k = goOps e T an C ops rest k { st with ρ := put ρ dst d } := rfl
theorem e_guard (e : Bool) (ops rest : List Oper) (dst : Option Tmp) (op : Op) (ty : TypeId) (pos : String) (af : Array Edge) (g : Nat × Bool) (k : Kont) (st : St) :
    goOps e T an C ops (⟨dst, op, ty, pos, af, some g⟩ :: rest) k st = goIf e T an C (wantedV st.ρ ops ⟨dst, op, ty, "", #[], some g⟩) ⟨dst, op, ty, "", #[], some g⟩ ops rest k st := by
  have h1 : opV T an.flip (CC e C) ⟨dst, op, ty, "", #[], some g⟩ st = opV T an.flip (CC e C) ⟨dst, op, ty, pos, af, some g⟩ st := rfl
  have h2 : wantedV st.ρ ops ⟨dst, op, ty, "", #[], some g⟩ = wantedV st.ρ ops ⟨dst, op, ty, pos, af, some g⟩ := rfl
  simp only [goOps, opsV, goIf, goOp, h1, h2]
  cases wantedV st.ρ ops ⟨dst, op, ty, pos, af, some g⟩ with
  | none => rfl
  | some b =>
    cases b
    · rfl
    · simp only []
      cases opV T an.flip (CC e C) ⟨dst, op, ty, pos, af, some g⟩ st <;> rfl
theorem e_ifT (e : Bool) (o : Oper) (ops rest : List Oper) (k : Kont) (st : St) : goIf e T an C (some true) o ops rest k st = goOp e T an C (opV T an.flip (CC e C) o st) st.ρ o.dst ops rest k := rfl
theorem e_ifF (e : Bool) (o : Oper) (ops rest : List Oper) (k : Kont) (st : St) : goIf e T an C (some false) o ops rest k st = goOps e T an C ops rest k { st with ρ := put st.ρ o.dst (.tuple []) } := rfl

theorem e_if (e : Bool) (b : Bool) (o : Oper) (ops rest : List Oper) (k : Kont) (st : St) : goIf e T an C (some b) o ops rest k st = if b = true then goOp e T an C (opV T an.flip (CC e C) o st) st.ρ o.dst ops rest k else goOps e T an C ops rest k { st with ρ := put st.ρ o.dst (.tuple []) } := by
  cases b <;> rfl
theorem e_bool (b : Bool) (x y : Code) (k : Kont) (st : St) : goCond T an C (.bool b) x y k st = if b = true then go T an C x k st else go T an C y k st := by
  cases b <;> rfl

theorem e_run (fi : FI) (args : List D) (B : Hp) (hl : args.length = fi.np) : runV T C fi args B = fin T fi.res fi.cut B (go T fi.an C fi.body .top (beginV fi.mv args B)) := by
  unfold runV
  rw [hl, nbeq]
  simp only [go, app, fin, decide_true, cond_true]
  cases codeV T fi.an C fi.body (beginV fi.mv args B) with
  | none => rfl
  | some r =>
    obtain ⟨x, st⟩ := r
    cases x with
    | exit i => rfl
    | _ => cases retV T fi.res st <;> rfl

theorem begin_f (args : List D) (B : Hp) : beginV false args B = ⟨envOf 0 args, [], [], B⟩ := rfl
theorem begin_t (args : List D) (B : Hp) : beginV true args B = ⟨envOf 0 (adoptCL [] args).1, [], (adoptCL [] args).2, B⟩ := rfl
theorem end_f (B : Hp) (r : D) (B' : Hp) : endV false B r B' = some (r, B') := rfl
theorem end_t {B : Hp} {r : D} {B' B'' : Hp} (h1 : r.under B.length = true) (h2 : B'.take B.length = B'') (h3 : B'' = B ∨ underB B.length B'' = true) : endV true B r B' = some (r, B'') := by
  unfold endV
  simp only [cond_true]
  rw [h2, if_pos ⟨h1, h3⟩]

noncomputable def finR (cut : Bool) (B : Hp) (r : Option D) (B' : Hp) : Option (D × Hp) :=
  match r with
  | some r => endV cut B r B'
  | .none => .none
theorem e_finN (res : List ResultVar) (cut : Bool) (B : Hp) (st : St) : fin T res cut B (some (.norm, st)) = finR cut B (retV T res st) st.B := by
  simp only [fin, finR]
theorem e_finX (res : List ResultVar) (cut : Bool) (B : Hp) (st : St) : fin T res cut B (some (.ret, st)) = finR cut B (retV T res st) st.B := by
  simp only [fin, finR]
theorem e_finR (cut : Bool) (B : Hp) (r : D) (B' : Hp) : finR cut B (some r) B' = endV cut B r B' := rfl

theorem loopC_next {c : Code} {st st' : St} {r : X × St} (h : go T an C c .top (an.at_ (firstOf c) st) = some (.norm, st')) (hr : loopC T an C c st' = some r) : loopC T an C c st = some r := loopW_next h hr
theorem loopC_done {c : Code} {st st' : St} {x : X} (h : go T an C c .top (an.at_ (firstOf c) st) = some (x, st')) (hx : x ≠ .norm) : loopC T an C c st = some (x, st') := loopW_done h hx

theorem codeV_loop (c : Code) (st : St) : codeV T an C (.loop c) st = loopC T an C c st := rfl

end Go.Proofs.YtploddijjofphaaDoor.V
