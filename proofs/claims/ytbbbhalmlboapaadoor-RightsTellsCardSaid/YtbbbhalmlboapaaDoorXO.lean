import Derived.Test.YtbbbhalmlboapaaDoorXL
/-
All functions at once: callees that are the limit of what comes in so many steps.
-/
namespace Go.Proofs.YtbbbhalmlboapaaDoor.V
set_option linter.unusedSimpArgs false
set_option linter.unusedVariables false
open Go Go.RowKit

/-- What a function's text computes, its callees give. -/
def Has (T : Tab) (C : Callees) (f : FuncId) (fi : FI) : Prop := ∀ args B r, runV T C fi args B = some r → C f args B = some r

/-- From some number on. -/
def Evt (p : Nat → Prop) : Prop := ∃ n, ∀ m, n ≤ m → p m

theorem Evt.and {p q : Nat → Prop} (h : Evt p) (h' : Evt q) : Evt fun m => p m ∧ q m := by
  obtain ⟨n, h⟩ := h
  obtain ⟨k, h'⟩ := h'
  exact ⟨max n k, fun m hm => ⟨h m (by omega), h' m (by omega)⟩⟩

theorem Evt.mono {p q : Nat → Prop} (h : Evt p) (hpq : ∀ m, p m → q m) : Evt q := by
  obtain ⟨n, h⟩ := h
  exact ⟨n, fun m hm => hpq m (h m hm)⟩

theorem Evt.all {p : Nat → Prop} (h : ∀ m, p m) : Evt p := ⟨0, fun m _ => h m⟩

/-- These callees are what those come to. -/
def Lim (C : Callees) (D : Nat → Callees) : Prop := ∀ f args B r, C f args B = some r → Evt fun m => D m f args B = some r

variable {T : Tab} {C : Callees} {E : Nat → Callees}

theorem Lim.keep (h : Lim C E) : Lim (keepB C) (fun m => keepB (E m)) := fun f args B r hr => by
  obtain ⟨r, B'⟩ := r
  unfold keepB at hr
  split at hr
  · rename_i r' B2 hc
    split at hr
    · rename_i hb
      injection hr with hr; injection hr with h1 h2; subst h1; subst h2; subst hb
      exact (h f args B2 _ hc).mono fun m hm => by
        unfold keepB
        dsimp only
        rw [hm]; simp
    · cases hr
  · cases hr

theorem Lim.cc (h : Lim C E) (d : Bool) : Lim (CC d C) (fun m => CC d (E m)) := by
  cases d
  · exact h
  · exact h.keep

theorem callOpV_evt (h : Lim C E) {fl : Nat} {st st' : St} {f d : D} {args : List D} (hd : callOpV C fl st f args = some (d, st')) : Evt fun m => callOpV (E m) fl st f args = some (d, st') := by
  unfold callOpV at hd ⊢
  split at hd
  · rename_i g caps
    cases hm : Nat.beq fl 2 with
    | true =>
      rw [hm] at hd
      simp only [cond_true] at hd
      split at hd
      · rename_i ds τ hds
        split at hd
        · rename_i r B' hc
          refine (h _ _ _ _ hc).mono fun m hm => ?_
          simp only [cond_true, hds, hm]
          exact hd
        · cases hd
      · cases hd
    | false =>
      rw [hm] at hd
      simp only [cond_false] at hd
      split at hd
      · rename_i ds hds
        split at hd
        · rename_i r B' hc
          refine (h _ _ _ _ hc).mono fun m hm => ?_
          simp only [cond_false, hds, hm]
          exact hd
        · cases hd
      · cases hd
  · cases hd

theorem opV_evt (h : Lim C E) {flip : Nat → Nat} {o : Oper} {st st' : St} {d : D} (hd : opV T flip C o st = some (d, st')) : Evt fun m => opV T flip (E m) o st = some (d, st') := by
  obtain ⟨dst, op, ty, pos, af, gd⟩ := o
  cases op
  case call cl =>
    cases hc : cl.callee with
    | value f =>
      simp only [opV, hc] at hd ⊢
      exact callOpV_evt h hd
    | builtin b => simp only [opV, hc] at hd ⊢; exact .all fun _ => hd
    | invoke r m => simp only [opV, hc] at hd; cases hd
  all_goals exact .all fun _ => hd

theorem opsV_evt (h : Lim C E) {flip : Nat → Nat} {ops : List Oper} : ∀ {rest : List Oper} {st st' : St}, opsV T flip C ops rest st = some st' → Evt fun m => opsV T flip (E m) ops rest st = some st'
  | [], st, st', hd => .all fun _ => hd
  | o :: rest, st, st', hd => by
    simp only [opsV] at hd ⊢
    split at hd
    · rename_i hw
      split at hd
      · rename_i d st1 ho
        refine ((opV_evt h ho).and (opsV_evt h hd)).mono fun m hm => ?_
        simp only [hm.1, hm.2]
      · cases hd
    · rename_i hw
      exact opsV_evt h hd
    · cases hd

theorem stepD_evt (h : Lim C E) {flip : Nat → Nat} {ops : List Oper} {o : Oper} {st : St} {r : St × List Acc} (hd : stepD T flip C ops o st = some r) : Evt fun m => stepD T flip (E m) ops o st = some r := by
  unfold stepD at hd ⊢
  split at hd
  · rename_i hw
    split at hd
    · rename_i d st1 ho
      refine (opV_evt h ho).mono fun m hm => ?_
      simp only [hm]; exact hd
    · cases hd
  · rename_i hw
    exact .all fun _ => hd
  · cases hd

theorem runD_evt (h : Lim C E) {flip : Nat → Nat} {ops : List Oper} : ∀ {rest : List Oper} {st : St} {r : St × List (List Acc)}, runD T flip C ops rest st = some r → Evt fun m => runD T flip (E m) ops rest st = some r
  | [], st, r, hd => .all fun _ => hd
  | o :: rest, st, r, hd => by
    simp only [runD] at hd ⊢
    split at hd
    · rename_i st1 a hs
      split at hd
      · rename_i st2 l hr
        refine ((stepD_evt h hs).and (runD_evt h hr)).mono fun m hm => ?_
        simp only [hm.1, hm.2]; exact hd
      · cases hd
    · cases hd

theorem regionV_evt (h : Lim C E) {flip : Nat → Nat} {ops : List Oper} {draw dyn : Bool} {st st' : St} (hd : regionV T flip C ops draw dyn st = some st') : Evt fun m => regionV T flip (E m) ops draw dyn st = some st' := by
  unfold regionV at hd ⊢
  cases hb : (draw && dyn) with
  | true =>
    rw [hb] at hd
    simp only [cond_true] at hd ⊢
    split at hd
    · rename_i s l hr
      refine (runD_evt h hr).mono fun m hm => ?_
      simp only [hm]; exact hd
    · cases hd
  | false =>
    rw [hb] at hd
    simp only [cond_false] at hd ⊢
    exact opsV_evt (h.cc draw) hd

theorem loopV_evt {F : St → Option (X × St)} {G : Nat → St → Option (X × St)} (h : ∀ st r, F st = some r → Evt fun m => G m st = some r) : ∀ {n : Nat} {st : St} {r : X × St}, loopV F n st = some r → Evt fun m => loopV (G m) n st = some r
  | 0, st, r, hd => by cases hd
  | n + 1, st, r, hd => by
    simp only [loopV] at hd ⊢
    split at hd
    · rename_i st' h1
      refine ((h _ _ h1).and (loopV_evt h hd)).mono fun m hm => ?_
      simp only [hm.1]; exact hm.2
    · rename_i hne
      refine (h _ _ hd).mono fun m hm => ?_
      rw [hm]
      obtain ⟨x, st'⟩ := r
      cases x with
      | norm => exact absurd hd (hne st')
      | _ => rfl

theorem codeV_evt (h : Lim C E) {an : An} : ∀ {c : Code} {st : St} {r : X × St}, codeV T an C c st = some r → Evt fun m => codeV T an (E m) c st = some r := by
  intro c
  induction c with
  | skip => intro st r hd; exact .all fun _ => hd
  | region id ops draw =>
    intro st r hd
    simp only [codeV] at hd ⊢
    split at hd
    · rename_i st' hr
      refine (regionV_evt h hr).mono fun m hm => ?_
      simp only [hm]; exact hd
    · cases hd
  | seq a b iha ihb =>
    intro st r hd
    simp only [codeV] at hd ⊢
    split at hd
    · rename_i st' h1
      refine ((iha h1).and (ihb hd)).mono fun m hm => ?_
      simp only [hm.1]; exact hm.2
    · rename_i hne
      refine (iha hd).mono fun m hm => ?_
      rw [hm]
      obtain ⟨x, st'⟩ := r
      cases x with
      | norm => exact absurd hd (hne st')
      | _ => rfl
  | cond x a b iha ihb =>
    intro st r hd
    simp only [codeV] at hd ⊢
    split at hd
    · rename_i t ht
      cases t with
      | true => exact iha hd
      | false => exact ihb hd
    · cases hd
  | block id c ih =>
    intro st r hd
    simp only [codeV] at hd ⊢
    split at hd
    · rename_i i st' h1
      refine (ih h1).mono fun m hm => ?_
      simp only [hm]; exact hd
    · rename_i hne
      refine (ih hd).mono fun m hm => ?_
      rw [hm]
      obtain ⟨x, st'⟩ := r
      cases x with
      | exit i => exact absurd hd (hne i st')
      | _ => rfl
  | loop c ih =>
    intro st r hd
    simp only [codeV] at hd ⊢
    obtain ⟨n, hn⟩ := (loopW_iff _ _ _).1 hd
    exact (loopV_evt (fun st r hr => ih hr) hn).mono fun m hm => (loopW_iff _ _ _).2 ⟨n, hm⟩
  | exit id => intro st r hd; exact .all fun _ => hd
  | ret => intro st r hd; exact .all fun _ => hd
  | _ => intro st r hd; simp [codeV] at hd

theorem runV_evt (h : Lim C E) {fi : FI} {args : List D} {B : Hp} {r : D × Hp} (hd : runV T C fi args B = some r) : Evt fun m => runV T (E m) fi args B = some r := by
  unfold runV at hd ⊢
  cases hb : Nat.beq args.length fi.np with
  | false => rw [hb] at hd; cases hd
  | true =>
    rw [hb] at hd
    simp only [cond_true] at hd ⊢
    split at hd
    · cases hd
    · rename_i x st hne hc
      refine (codeV_evt h hc).mono fun m hm => ?_
      rw [hm]
      cases x with
      | exit i => exact absurd rfl (hne i)
      | _ => exact hd
    · cases hd

/-! ### The limit -/
/-- One step more: what is known by hand, and else the functions' texts. -/
noncomputable def stepC (T : Tab) (P0 : Callees) (F : FuncId → Option FI) (C : Callees) : Callees := fun f args B =>
  match P0 f args B with
  | some r => some r
  | .none => match F f with
    | some fi => runV T C fi args B
    | .none => .none

noncomputable def iterC (T : Tab) (P0 : Callees) (F : FuncId → Option FI) : Nat → Callees
  | 0 => P0
  | n + 1 => stepC T P0 F (iterC T P0 F n)

open Classical in
noncomputable def limC (T : Tab) (P0 : Callees) (F : FuncId → Option FI) : Callees := fun f args B =>
  if h : ∃ r, Evt fun m => iterC T P0 F m f args B = some r then some h.choose else .none

theorem limC_iff {P0 : Callees} {F : FuncId → Option FI} {f : FuncId} {args : List D} {B : Hp} {r : D × Hp} : limC T P0 F f args B = some r ↔ Evt fun m => iterC T P0 F m f args B = some r := by
  unfold limC
  constructor
  · intro h
    split at h
    · rename_i hx
      injection h with h; subst h
      exact hx.choose_spec
    · cases h
  · intro h
    have hx : ∃ r, Evt fun m => iterC T P0 F m f args B = some r := ⟨r, h⟩
    rw [dif_pos hx]
    obtain ⟨n, hn⟩ := h.and hx.choose_spec
    obtain ⟨h1, h2⟩ := hn n (Nat.le_refl _)
    rw [h1] at h2
    exact h2.symm

theorem limC_has {P0 : Callees} {F : FuncId → Option FI} {f : FuncId} {fi : FI} (hf : F f = some fi) (h0 : ∀ args B, P0 f args B = .none) : Has T (limC T P0 F) f fi := fun args B r h => by
  rw [limC_iff]
  obtain ⟨n, hn⟩ := runV_evt (E := iterC T P0 F) (fun f args B r h => limC_iff.1 h) h
  refine ⟨n + 1, fun m hm => ?_⟩
  obtain ⟨k, rfl⟩ : ∃ k, m = k + 1 := ⟨m - 1, by omega⟩
  simp only [iterC, stepC, h0, hf]
  exact hn k (by omega)

theorem limC_prim {P0 : Callees} {F : FuncId → Option FI} {f : FuncId} {args : List D} {B : Hp} {r : D × Hp} (h : P0 f args B = some r) : limC T P0 F f args B = some r := by
  rw [limC_iff]
  refine .all fun m => ?_
  cases m with
  | zero => exact h
  | succ m => simp only [iterC, stepC, h]

theorem limC_ok {c : Cx} (hT : TabOk c.P T) (hm : c.P.follows .mixedOrders = true) {P0 : Callees} (hP : CallOK c P0) {F : FuncId → Option FI} (hF : ∀ f fi, F f = some fi → FnOk c.P f fi) : CallOK c (limC T P0 F) := by
  have hi : ∀ n, CallOK c (iterC T P0 F n) := by
    intro n
    induction n with
    | zero => exact hP
    | succ n ih =>
      intro f args B r B' h
      simp only [iterC, stepC] at h
      split at h
      · rename_i r' hr
        exact hP f args B r B' (by rw [hr]; exact h)
      · split at h
        · rename_i fi hfi
          have hok := hF f fi hfi
          obtain ⟨fn, h1, h2, h3, _⟩ := hok.fn
          refine ⟨⟨fn, h1, h2, by rw [h3]; rfl⟩, fun w g vs ks hfs ha hnd hnb => fn_spec hT ih (fun w g ks => ?_) hok h hfs ha hnd hnb⟩
          exact drawOK (c := c.at_ w g ks) hm (tabOk_at hT w g ks) (callOK_at ih w g ks)
        · cases h
  intro f args B r B' h
  obtain ⟨n, hn⟩ := limC_iff.1 h
  exact hi n f args B r B' (hn n (Nat.le_refl _))

end Go.Proofs.YtbbbhalmlboapaaDoor.V

/-
A function that asks whether its slice is nil: known by its two runs.
-/
namespace Go.Proofs.YtbbbhalmlboapaaDoor.V
set_option linter.unusedSimpArgs false
set_option linter.unusedVariables false
open Go Go.RowKit

variable {c : Cx} {g : Gh} {w : World}

theorem repC_none {bx : List Nat} {s : Nat → Nat} {sz : Nat} {xs : List D} {v : Value} {ks : List Nat} (h : RepC bx s w (.vec sz xs .none) v ks) : ks = [] ∧ Rep bx s w (.vec sz xs .none) v := by
  cases h with
  | one _ _ _ h => cases h with | clean _ _ h => exact ⟨rfl, h⟩

theorem CallOK.or_nil {C C0 : Callees} (hC : CallOK c C) (h0 : CallOK c C0) {f : FuncId} {h : List D → Hp → Option (D × Hp)}
    (hh : ∀ args B r, h args B = some r → ∃ sz xs, args = [.vec sz xs .none] ∧ C0 f [.vec sz xs .real] B = some r ∧ (xs = [] → C0 f [.nilsl] B = some r)) : CallOK c (V.upd C f h) := fun f' args B r B' hu => by
  unfold V.upd at hu
  cases hb : Nat.beq f f' with
  | true =>
    rw [hb] at hu
    simp only [cond_true] at hu
    obtain rfl := Nat.eq_of_beq_eq_true hb
    obtain ⟨sz, xs, rfl, h1, h2⟩ := hh args B _ hu
    refine ⟨(h0 f _ B r B' h1).1, fun w g vs ks hf ha hnd hnb => ?_⟩
    obtain ⟨v, rfl, hr⟩ := one_arg ha
    obtain ⟨hks, hr2⟩ := repC_none hr
    subst hks
    clear ha hr
    cases hr2 with
    | nilv _ _ hp => exact (h0 f _ B r B' (h2 rfl)).2 w g _ [] hf (.cons _ _ [] _ _ [] (.one _ _ _ (.clean _ _ .nilsl)) .nil) hnd hnb
    | vec _ _ _ a cap f hp hcap hsz hc hr hs => exact (h0 _ _ B r B' h1).2 w g _ [] hf (.cons _ _ [] _ _ [] (.one _ _ _ (.clean _ _ (.vec sz xs .real a cap f (.inr (.inr rfl)) hcap hsz hc hr hs))) .nil) hnd hnb
  | false =>
    rw [hb] at hu
    exact hC f' args B r B' hu

/-- A copy. -/
def cloneV (sz bytes : Nat) : List D → Hp → Option (D × Hp)
  | [.vec s xs p], B => match p with
    | .none => if s = sz ∧ roomy xs.length bytes = true then some (.vec sz xs .fresh, B) else .none
    | _ => .none
  | _, _ => .none

theorem cloneV_inv {sz bytes : Nat} {args : List D} {B : Hp} {r : D × Hp} (h : cloneV sz bytes args B = some r) : ∃ xs, args = [.vec sz xs .none] ∧ roomy xs.length bytes = true ∧ r = (.vec sz xs .fresh, B) := by
  unfold cloneV at h
  split at h
  · split at h
    · split at h
      · rename_i hc
        obtain ⟨rfl, h2⟩ := hc
        injection h with h
        exact ⟨_, rfl, h2, h.symm⟩
      · cases h
    · cases h
  · cases h

end Go.Proofs.YtbbbhalmlboapaaDoor.V
