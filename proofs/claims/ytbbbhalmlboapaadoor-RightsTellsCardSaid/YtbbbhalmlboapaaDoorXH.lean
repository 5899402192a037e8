import Derived.Test.YtbbbhalmlboapaaDoorXF
/-
Regions whose order is drawn: two operations that have nothing to do with one another may change places.
-/
namespace Go.Proofs.YtbbbhalmlboapaaDoor.V
set_option linter.unusedSimpArgs false
set_option linter.unusedVariables false
open Go Go.RowKit

variable {T : Tab} {flip : Nat → Nat} {C : Callees} {ops : List Oper}

def AgreeOn (l : List Tmp) (ρ ρ' : Env) : Prop := ∀ t, t ∈ l → get ρ' t = get ρ t

theorem eval_agree {ρ ρ' : Env} {o : Oper} (h : AgreeOn (o.looksAt ops.toArray) ρ ρ') (x : Operand) (hx : x ∈ o.op.operands.toList) : eval ρ' x = eval ρ x := by
  cases x with
  | tmp t => exact h t (List.mem_append_left _ (List.mem_filterMap.2 ⟨.tmp t, hx, rfl⟩))
  | _ => rfl

theorem wanted_agree {ρ ρ' : Env} {o : Oper} (h : AgreeOn (o.looksAt ops.toArray) ρ ρ') : wantedV ρ' ops o = wantedV ρ ops o := by
  unfold wantedV
  cases hg : o.guard with
  | none => rfl
  | some gw =>
    obtain ⟨j, want⟩ := gw
    simp only []
    cases hj : ops[j]? with
    | none => rfl
    | some og =>
      simp only []
      cases hd : og.dst with
      | none => rfl
      | some t =>
        simp only []
        rw [h t (List.mem_append_right _ (by simp [hg, hj, hd]))]

theorem accs_simple {ρ : Env} {B B' B2 B2' : Hp} {o : Oper} (h : simpleOp flip o = true) : accs flip ρ B B' o = accs flip ρ B2 B2' o := by
  obtain ⟨dst, op, ty, pos, af, gd⟩ := o
  cases op
  case call cl =>
    cases hc : cl.callee with
    | builtin b => simp only [accs, hc]; cases b <;> rfl
    | value f => simp only [simpleOp, hc] at h; cases h
    | invoke r m => simp only [simpleOp, hc] at h; cases h
  all_goals rfl

theorem st_simple {ρ : Env} {B B' : Hp} {o : Oper} (h : Acc.st ∉ accs flip ρ B B' o) (h2 : Acc.al ∉ accs flip ρ B B' o) : simpleOp flip o = true := by
  cases hs : simpleOp flip o with
  | true => rfl
  | false =>
    exfalso
    unfold accs at h h2
    rw [hs] at h h2
    cases ha : isAl flip o with
    | true => rw [ha] at h2; simp at h2
    | false =>
      rw [ha] at h
      cases he : isExt flip o <;> rw [he] at h <;> simp at h

/-! ### What accesses say of boxes -/
def inR (P : Nat → Prop) : D → Prop
  | .lptr i _ => P i
  | .lsl i _ _ _ => P i
  | _ => True

theorem inR.mono {P P' : Nat → Prop} (h : ∀ i, P i → P' i) {d : D} (hd : inR P d) : inR P' d := by
  cases d <;> first | exact h _ hd | trivial

def boxOf : Acc → Option Nat
  | .rdL i => some i
  | .wrL i => some i
  | _ => .none

theorem accP_range {P : Nat → Prop} {i : Nat} {d : D} {x : Acc} (hd : inR P d) (h : x ∈ accP d) (hx : boxOf x = some i) : P i := by
  cases d <;> simp [accP] at h
  all_goals (subst h; simp [boxOf] at hx; try (subst hx; exact hd))

theorem accW_range {P : Nat → Prop} {i : Nat} {d : D} {x : Acc} (hd : inR P d) (h : x ∈ accW d) (hx : boxOf x = some i) : P i := by
  cases d <;> simp [accW] at h
  all_goals (subst h; simp [boxOf] at hx; try (subst hx; exact hd))

theorem accs_range {P : Nat → Prop} {ρ : Env} {B B' : Hp} {o : Oper} {i : Nat} {x : Acc} (hr : ∀ z, z ∈ o.op.operands.toList → inR P (eval ρ z)) (h : x ∈ accs flip ρ B B' o) (hx : boxOf x = some i) : P i := by
  unfold accs at h
  have h0 : x ∉ (bif simpleOp flip o then [] else bif isAl flip o then [Acc.al] else bif isExt flip o then [Acc.st, Acc.ext] else [Acc.st]) := fun h0 => by
    cases hs : simpleOp flip o <;> cases ha : isAl flip o <;> cases he : isExt flip o <;> rw [hs, ha, he] at h0 <;> simp at h0 <;> first | (subst h0; simp [boxOf] at hx; done) | (rcases h0 with rfl | rfl <;> simp [boxOf] at hx)
  replace h := (List.mem_append.1 h).resolve_left h0
  clear h0
  obtain ⟨dst, op, ty, pos, af, gd⟩ := o
  cases op <;> simp only [Op.operands] at hr h <;> try (cases h; done)
  case load t a => exact accP_range (hr a (by simp)) h hx
  case store t a y => exact accW_range (hr a (by simp)) h hx
  case convert t u a => exact accP_range (hr a (by simp)) h hx
  case alloc e =>
    cases hb : Nat.beq (flipD flip dst) 0 <;> rw [hb] at h <;> simp at h
    subst h; simp [boxOf] at hx
  case box e y =>
    cases hb : (Nat.beq (flipD flip dst) 0 || Nat.beq (flipD flip dst) 1) <;> rw [hb] at h <;> simp at h
    subst h; simp [boxOf] at hx
  case call cl =>
    cases hc : cl.callee with
    | builtin b =>
      rw [hc] at h
      have hr' : ∀ d, d ∈ cl.args.toList.map (eval ρ) → inR P d := fun d hd => by
        obtain ⟨z, hz, rfl⟩ := List.mem_map.1 hd
        exact hr z (by simp [Call.operands, hc]; simpa using hz)
      cases b <;> simp only at h <;> try (cases h; done)
      · split at h
        · rename_i y z hyz
          exact accP_range (hr' z (by rw [hyz]; simp)) h hx
        · cases h
      · split at h
        · rename_i y z hyz
          rcases List.mem_append.1 h with h | h
          · exact accW_range (hr' y (by rw [hyz]; simp)) h hx
          · exact accP_range (hr' z (by rw [hyz]; simp)) h hx
        · cases h
    | value f =>
      rw [hc] at h
      simp only at h
      rcases List.mem_cons.1 h with h | h
      · split at h <;> (subst h; simp [boxOf] at hx)
      · obtain ⟨l, hl, hi⟩ := List.mem_flatten.1 h
        obtain ⟨d, hd, rfl⟩ := List.mem_map.1 hl
        obtain ⟨z, hz, rfl⟩ := List.mem_map.1 hd
        exact accP_range (hr z (by simp [Call.operands, hc]; exact .inr (by simpa using hz))) hi hx
    | invoke q m =>
      rw [hc] at h
      simp only at h
      rcases List.mem_cons.1 h with h | h
      · split at h <;> (subst h; simp [boxOf] at hx)
      · obtain ⟨l, hl, hi⟩ := List.mem_flatten.1 h
        obtain ⟨d, hd, rfl⟩ := List.mem_map.1 hl
        obtain ⟨z, hz, rfl⟩ := List.mem_map.1 hd
        exact accP_range (hr z (by simp [Call.operands, hc]; exact .inr (by simpa using hz))) hi hx

/-! ### Slots -/
theorem get_put (ρ : Env) (dst : Option Tmp) (d : D) (t : Nat) : get (put ρ dst d) t = if dst = some t then d else get ρ t := by
  cases dst with
  | none => simp [put]
  | some u =>
    by_cases h : u = t
    · subst h; rw [get_put_self]; simp
    · rw [get_put_ne _ _ _ _ h]; simp [h]

theorem agree_put {l : List Tmp} {ρ : Env} {dst : Option Tmp} {d : D} (h : ∀ t, dst = some t → t ∉ l) : AgreeOn l ρ (put ρ dst d) := fun t ht => by
  rw [get_put, if_neg (fun e => h t e ht)]

/-- Slots that hold the same, and the same memory. -/
structure Sim (s t : St) : Prop where
  ρ : ∀ k, get t.ρ k = get s.ρ k
  L : t.L = s.L
  τ : t.τ = s.τ
  B : t.B = s.B

theorem Sim.refl (s : St) : Sim s s := ⟨fun _ => rfl, rfl, rfl, rfl⟩
theorem Sim.trans {s t u : St} (h : Sim s t) (h' : Sim t u) : Sim s u := ⟨fun k => (h'.ρ k).trans (h.ρ k), h'.L.trans h.L, h'.τ.trans h.τ, h'.B.trans h.B⟩
theorem Sim.symm {s t : St} (h : Sim s t) : Sim t s := ⟨fun k => (h.ρ k).symm, h.L.symm, h.τ.symm, h.B.symm⟩

theorem clash_false {a b : List Acc} (h : clashL b a = false) {x y : Acc} (hx : x ∈ b) (hy : y ∈ a) : x.clash y = false := by
  unfold clashL at h
  have := (List.any_eq_false.1 h) x hx
  simp only [Bool.not_eq_true] at this
  exact Bool.eq_false_iff.2 (fun e => by
    have := (List.any_eq_false.1 this) y hy
    exact this e)

theorem ins_comm {L : List (Option (List D))} {k q : Nat} (hkq : k ≠ q) (y z : List D) : ins (ins L k y) q z = ins (ins L q z) k y := by
  have hl : ∀ (L : List (Option (List D))) (k : Nat) (y : List D), (ins L k y).length = max L.length (k + 1) := fun L k y => by unfold ins; simp; omega
  apply List.ext_getElem?
  intro i
  have hi : ∀ (L : List (Option (List D))) (k : Nat) (y : List D), (ins L k y)[i]? = if i = k then some (some y) else if i < L.length then L[i]? else if i < k + 1 then some .none else .none := fun L k y => by
    unfold ins
    rw [List.getElem?_set]
    by_cases h : k = i
    · subst h
      rw [if_pos rfl, if_pos rfl, if_pos (by simp; omega)]
    · rw [if_neg h, if_neg (fun e => h e.symm)]
      rcases Nat.lt_or_ge i L.length with h1 | h1
      · rw [List.getElem?_append_left h1, if_pos h1]
      · rw [List.getElem?_append_right h1, if_neg (by omega), List.getElem?_replicate]
        by_cases h2 : i < k + 1
        · rw [if_pos (by omega), if_pos h2]
        · rw [if_neg (by omega), if_neg h2]
  rw [hi, hi]
  simp only [hl, hi]
  by_cases h1 : i = q <;> by_cases h2 : i = k
  · omega
  all_goals (repeat' split) <;> first | rfl | omega | simp_all

theorem chg_ins {s : St} {A : List Acc} {f : List (Option (List D)) → List (Option (List D))} (hf : Chg s A f) {L : List (Option (List D))} {k : Nat} (hL : ∀ i ds, s.L[i]? = some (some ds) → Acc.wrL i ∈ A → dom L i) (hk : ¬ dom L k) (z : List D) : f (ins L k z) = ins (f L) k z := by
  rcases hf with rfl | ⟨i, ds, es, hi, hw, rfl⟩
  · rfl
  · have hd := hL i ds hi hw
    have hik : i ≠ k := fun e => hk (e ▸ hd)
    have hlt := dom_lt hd
    unfold ins
    simp only [List.length_set]
    rw [List.set_comm _ _ (Ne.symm hik), List.set_append_left _ _ hlt]

theorem chg_dom {s : St} {A : List Acc} {f : List (Option (List D)) → List (Option (List D))} (hf : Chg s A f) {L : List (Option (List D))} (hL : ∀ i ds, s.L[i]? = some (some ds) → Acc.wrL i ∈ A → dom L i) {k : Nat} (h : dom (f L) k) : dom L k := by
  rcases hf with rfl | ⟨i, ds, es, hi, hw, rfl⟩
  · exact h
  · obtain ⟨ds', hd⟩ := hL i ds hi hw
    exact dom_set_inv hd h

/-! ### Steps -/
/-- It lays a box of the frame's own, that holds a zero of this type. -/
def alOf (flip : Nat → Nat) (o : Oper) : Option TypeId :=
  match o.op with
  | .alloc e => bif Nat.beq (flipD flip o.dst) 0 then some e else .none
  | _ => .none

theorem alOf_some {o : Oper} {e : TypeId} (h : alOf flip o = some e) : o.op = .alloc e ∧ Nat.beq (flipD flip o.dst) 0 = true ∧ isAl flip o = true := by
  unfold alOf at h
  split at h
  · rename_i e' he
    cases hb : Nat.beq (flipD flip o.dst) 0 with
    | false => rw [hb] at h; cases h
    | true =>
      rw [hb] at h
      simp only [cond_true] at h
      injection h with h; subst h
      refine ⟨he, rfl, ?_⟩
      unfold isAl
      rw [he]; exact hb
  · cases h

theorem alOf_none {o : Oper} (h : alOf flip o = .none) : isAl flip o = false := by
  unfold alOf at h
  unfold isAl
  split at h
  · rename_i e' he
    cases hb : Nat.beq (flipD flip o.dst) 0 with
    | false => simp only [he, hb]
    | true => rw [hb] at h; cases h
  · rename_i hne
    split
    · rename_i e he; exact absurd he (hne e)
    · rfl

open Classical in
/-- A box is laid at a number of one's own choice. -/
noncomputable def stepX (T : Tab) (flip : Nat → Nat) (C : Callees) (ops : List Oper) (k : Nat) (o : Oper) (s : St) : Option (St × List Acc) :=
  match alOf flip o with
  | some e => match wantedV s.ρ ops o with
    | some true => match T e with
      | some ti => if dom s.L k then .none else some ({ s with ρ := put s.ρ o.dst (.lptr k 0), L := ins s.L k ti.zero.cells }, [.al])
      | .none => .none
    | some false => some ({ s with ρ := put s.ρ o.dst (.tuple []) }, [])
    | .none => .none
  | .none => stepD T flip C ops o s

theorem stepX_len {o : Oper} {s : St} {r : St × List Acc} (h : stepD T flip C ops o s = some r) : stepX T flip C ops s.L.length o s = some r := by
  unfold stepX
  split
  · rename_i e he
    unfold stepD at h
    split at h
    · rename_i hw
      rw [hw]
      simp only []
      have ho : opV T flip C o s = match T e with
        | some ti => some (.lptr s.L.length 0, { s with L := s.L ++ [some ti.zero.cells] })
        | .none => .none := by
        obtain ⟨e1, e2, _⟩ := alOf_some he
        obtain ⟨dst, op, ty, pos, af, gd⟩ := o
        simp only at e1 e2
        subst e1
        simp only [opV, e2, cond_true]
        cases T e <;> rfl
      rw [ho] at h
      have ha : ∀ B', accs flip s.ρ s.B B' o = [.al] := fun B' => by
        obtain ⟨e1, e2, e3⟩ := alOf_some he
        obtain ⟨dst, op, ty, pos, af, gd⟩ := o
        simp only at e1 e2
        subst e1
        simp only [accs, simpleOp, e3, e2, cond_true, cond_false, List.append_nil]
      cases ht : T e with
      | none => rw [ht] at h; cases h
      | some ti =>
        rw [ht] at h
        simp only [ha] at h
        dsimp only
        rw [if_neg (fun h => Nat.lt_irrefl _ (dom_lt h)), ins_len]
        exact h
    · rename_i hw
      rw [hw]; exact h
    · cases h
  · exact h

theorem stepX_any {k : Nat} {o : Oper} {s s1 : St} {a : List Acc} (h : stepX T flip C ops k o s = some (s1, a)) :
    ∃ e, s1.ρ = put s.ρ o.dst e ∧ Fr s s1 a ∧ ∀ ρ', AgreeOn (o.looksAt ops.toArray) s.ρ ρ' → stepX T flip C ops k o { s with ρ := ρ' } = some ({ s1 with ρ := put ρ' o.dst e }, a) := by
  unfold stepX at h
  split at h
  · rename_i e he
    split at h
    · rename_i hw
      split at h
      · rename_i ti ht
        split at h
        · cases h
        · rename_i hk
          injection h with h; injection h with h1 h2; subst h1; subst h2
          refine ⟨_, rfl, ⟨fun i ds hi _ => ins_get.2 (.inr ⟨fun e => hk (e ▸ ⟨ds, hi⟩), hi⟩), fun i hi => dom_ins.2 (.inr hi), fun _ => rfl⟩, fun ρ' hρ => ?_⟩
          unfold stepX
          simp only [he, wanted_agree hρ, hw, ht, hk, if_false]
      · cases h
    · rename_i hw
      injection h with h; injection h with h1 h2; subst h1; subst h2
      refine ⟨_, rfl, ⟨fun _ _ h _ => h, fun _ h => h, fun _ => rfl⟩, fun ρ' hρ => ?_⟩
      unfold stepX
      simp only [he, wanted_agree hρ, hw]
    · cases h
  · rename_i hne
    unfold stepD at h
    split at h
    · rename_i hw
      split at h
      · rename_i d st' ho
        injection h with h; injection h with h1 h2; subst h1; subst h2
        have hf := frame_spec ho
        refine ⟨d, rfl, ⟨hf.L, hf.dom, hf.B⟩, fun ρ' hρ => ?_⟩
        have hc := opV_congr (T := T) (flip := flip) (C := C) s.ρ ρ' s.L s.τ s.B o (eval_agree hρ)
        have hs : opV T flip C o ⟨s.ρ, s.L, s.τ, s.B⟩ = some (d, st') := ho
        rw [hs] at hc
        unfold stepX
        split
        · rename_i e he; rw [hne] at he; cases he
        · unfold stepD
          show (match wantedV ρ' ops o with
            | some true => _
            | some false => _
            | .none => _) = _
          rw [wanted_agree hρ, hw]
          simp only []
          rw [hc]
          simp only [reρ]
          rw [accs_congr (eval_agree hρ)]
      · cases h
    · rename_i hw
      injection h with h; injection h with h1 h2; subst h1; subst h2
      refine ⟨.tuple [], rfl, ⟨fun _ _ h _ => h, fun _ h => h, fun _ => rfl⟩, fun ρ' hρ => ?_⟩
      unfold stepX
      split
      · rename_i e he; rw [hne] at he; cases he
      · unfold stepD
        rw [wanted_agree hρ, hw]
    · cases h

/-- Three kinds of steps: what changes nothing; a box more; and others. -/
theorem stepX_kind {k : Nat} {o : Oper} {s s1 : St} {a : List Acc} (h : stepX T flip C ops k o s = some (s1, a)) :
    (Acc.st ∉ a ∧ Acc.al ∉ a ∧ ∃ e, s1 = { s with ρ := put s.ρ o.dst e } ∧ ∀ s2 : St, AgreeOn (o.looksAt ops.toArray) s.ρ s2.ρ → Sees s s2 a → stepX T flip C ops k o s2 = some ({ s2 with ρ := put s2.ρ o.dst e }, a)) ∨
    (Acc.al ∈ a ∧ Acc.st ∉ a ∧ ∃ e z, ¬ dom s.L k ∧ s1 = { s with ρ := put s.ρ o.dst e, L := ins s.L k z } ∧ ∀ s2 : St, AgreeOn (o.looksAt ops.toArray) s.ρ s2.ρ → ¬ dom s2.L k → stepX T flip C ops k o s2 = some ({ s2 with ρ := put s2.ρ o.dst e, L := ins s2.L k z }, a)) ∨
    (Acc.st ∈ a ∧ (Acc.ext ∉ a → ∃ e f, Chg s a f ∧ s1.L = f s.L ∧ s1.ρ = put s.ρ o.dst e ∧ ∀ s2 : St, AgreeOn (o.looksAt ops.toArray) s.ρ s2.ρ → s2.τ = s.τ → s2.B = s.B → Sees s s2 a →
      (∀ i ds, Acc.wrL i ∈ a → s.L[i]? = some (some ds) → s2.L[i]? = some (some ds)) → stepX T flip C ops k o s2 = some (⟨put s2.ρ o.dst e, f s2.L, s1.τ, s1.B⟩, a))) := by
  unfold stepX at h
  split at h
  · rename_i e he
    split at h
    · rename_i hw
      split at h
      · rename_i ti ht
        split at h
        · cases h
        · rename_i hk
          injection h with h; injection h with h1 h2; subst h1; subst h2
          refine .inr (.inl ⟨by simp, by simp, .lptr k 0, ti.zero.cells, hk, rfl, fun s2 hρ hk2 => ?_⟩)
          unfold stepX
          simp only [he, wanted_agree hρ, hw, ht, hk2, if_false]
      · cases h
    · rename_i hw
      injection h with h; injection h with h1 h2; subst h1; subst h2
      refine .inl ⟨by simp, by simp, .tuple [], rfl, fun s2 hρ _ => ?_⟩
      unfold stepX
      simp only [he, wanted_agree hρ, hw]
    · cases h
  · rename_i hne
    have hX : ∀ s2, stepX T flip C ops k o s2 = stepD T flip C ops o s2 := fun s2 => by
      unfold stepX
      split
      · rename_i e he; rw [hne] at he; cases he
      · rfl
    have hal : isAl flip o = false := alOf_none hne
    unfold stepD at h
    split at h
    · rename_i hw
      split at h
      · rename_i d st' ho
        injection h with h; injection h with h1 h2; subst h1; subst h2
        cases hso : simpleOp flip o with
        | true =>
          obtain ⟨e1, _⟩ := simple_spec (s2 := s) (B' := st'.B) hso ho (fun _ _ => rfl) (Sees.refl _ _)
          have e1 := e1.symm
          subst e1
          have hno : ∀ x, x = Acc.st ∨ x = Acc.al → x ∉ accs flip s.ρ s.B s.B o := fun x hx hm => by
            unfold accs at hm
            rw [hso] at hm
            simp only [cond_true, List.nil_append] at hm
            have hb : ∀ d, x ∉ accP d ∧ x ∉ accW d := fun d => by
              rcases hx with rfl | rfl <;> cases d <;> simp [accP, accW]
            have hbif : ∀ b : Bool, x ∉ (bif b then [] else [Acc.wrB]) := fun b => by
              rcases hx with rfl | rfl <;> cases b <;> simp
            split at hm
            · exact (hb _).1 hm
            · exact (hb _).2 hm
            · exact hbif _ hm
            · exact hbif _ hm
            · exact (hb _).1 hm
            · split at hm
              · split at hm
                · exact (hb _).1 hm
                · cases hm
              · split at hm
                · rcases List.mem_append.1 hm with hm | hm
                  · exact (hb _).2 hm
                  · exact (hb _).1 hm
                · cases hm
              · cases hm
              · rcases List.mem_cons.1 hm with hm | hm
                · rcases hx with rfl | rfl <;> split at hm <;> cases hm
                · obtain ⟨l, hl, hi⟩ := List.mem_flatten.1 hm
                  obtain ⟨d, _, rfl⟩ := List.mem_map.1 hl
                  exact (hb _).1 hi
            · cases hm
          refine .inl ⟨hno _ (.inl rfl), hno _ (.inr rfl), d, rfl, fun s2 hρ hs => ?_⟩
          obtain ⟨_, e2⟩ := simple_spec (s2 := s2) (B' := s.B) hso ho (eval_agree hρ) hs
          rw [hX]
          unfold stepD
          rw [wanted_agree hρ, hw]
          simp only []
          rw [e2]
          simp only []
          rw [accs_congr (eval_agree hρ), accs_simple (B2 := s.B) (B2' := s.B) hso]
        | false =>
          refine .inr (.inr ⟨?_, fun hext => ?_⟩)
          · unfold accs
            rw [hso, hal]
            cases isExt flip o <;> simp
          · have hex : isExt flip o = false := by
              cases he : isExt flip o with
              | false => rfl
              | true => exact absurd (by unfold accs; rw [hso, hal, he]; simp) hext
            obtain ⟨f, g1, g2, g3⟩ := act_spec (B' := st'.B) hso hal hex ho
            refine ⟨d, f, g1, g2, rfl, fun s2 hρ hτ hB hs hwr => ?_⟩
            rw [hX]
            unfold stepD
            rw [wanted_agree hρ, hw]
            simp only []
            rw [g3 s2 (eval_agree hρ) hτ hB hs hwr]
            simp only []
            rw [accs_congr (eval_agree hρ), hB]
      · cases h
    · rename_i hw
      injection h with h; injection h with h1 h2; subst h1; subst h2
      refine .inl ⟨by simp, by simp, .tuple [], rfl, fun s2 hρ _ => ?_⟩
      rw [hX]
      unfold stepD
      rw [wanted_agree hρ, hw]
    · cases h

theorem stepX_range {k : Nat} {o : Oper} {s s1 : St} {a : List Acc} {P : Nat → Prop} {i : Nat} {x : Acc} (h : stepX T flip C ops k o s = some (s1, a)) (hr : ∀ z, z ∈ o.op.operands.toList → inR P (eval s.ρ z)) (hx : x ∈ a) (hi : boxOf x = some i) : P i := by
  unfold stepX at h
  split at h
  · split at h
    · split at h
      · split at h
        · cases h
        · injection h with h; injection h with h1 h2; subst h2
          simp at hx; subst hx; cases hi
      · cases h
    · injection h with h; injection h with h1 h2; subst h2
      cases hx
    · cases h
  · unfold stepD at h
    split at h
    · split at h
      · injection h with h; injection h with h1 h2; subst h2
        exact accs_range hr hx hi
      · cases h
    · injection h with h; injection h with h1 h2; subst h2
      cases hx
    · cases h

theorem alloc_accs {k : Nat} {o : Oper} {s s1 : St} {a : List Acc} (h : stepX T flip C ops k o s = some (s1, a)) (ha : Acc.al ∈ a) : (∃ e, o.op = .alloc e) ∧ a = [.al] := by
  unfold stepX at h
  split at h
  · rename_i e he
    refine ⟨⟨e, (alOf_some he).1⟩, ?_⟩
    split at h
    · split at h
      · split at h
        · cases h
        · injection h with h; injection h with h1 h2; exact h2.symm
      · cases h
    · injection h with h; injection h with h1 h2; subst h2
      cases ha
    · cases h
  · rename_i hne
    exfalso
    have hX := stepX_kind (T := T) (flip := flip) (C := C) (ops := ops) (k := k) (o := o) (s := s) (s1 := s1) (a := a) (by
      unfold stepX
      split
      · rename_i e he; rw [hne] at he; cases he
      · exact h)
    have hal : isAl flip o = false := alOf_none hne
    unfold stepD at h
    split at h
    · split at h
      · injection h with h; injection h with h1 h2; subst h2
        unfold accs at ha
        rcases List.mem_append.1 ha with ha | ha
        · cases hs : simpleOp flip o <;> cases he : isExt flip o <;> rw [hs, hal, he] at ha <;> simp at ha
        · have hb : ∀ d, Acc.al ∉ accP d ∧ Acc.al ∉ accW d := fun d => by cases d <;> simp [accP, accW]
          have hbif : ∀ b : Bool, Acc.al ∉ (bif b then [] else [Acc.wrB]) := fun b => by cases b <;> simp
          split at ha
          · exact (hb _).1 ha
          · exact (hb _).2 ha
          · exact hbif _ ha
          · exact hbif _ ha
          · exact (hb _).1 ha
          · split at ha
            · split at ha
              · exact (hb _).1 ha
              · cases ha
            · split at ha
              · rcases List.mem_append.1 ha with ha | ha
                · exact (hb _).2 ha
                · exact (hb _).1 ha
              · cases ha
            · cases ha
            · rcases List.mem_cons.1 ha with ha | ha
              · split at ha <;> cases ha
              · obtain ⟨l, hl, hi⟩ := List.mem_flatten.1 ha
                obtain ⟨d, _, rfl⟩ := List.mem_map.1 hl
                exact (hb _).1 hi
          · cases ha
      · cases h
    · injection h with h; injection h with h1 h2; subst h2
      cases ha
    · cases h

theorem sim_step {k : Nat} {o : Oper} {s s1 t : St} {a : List Acc} (h : stepX T flip C ops k o s = some (s1, a)) (hs : Sim s t) : ∃ t1, stepX T flip C ops k o t = some (t1, a) ∧ Sim s1 t1 := by
  obtain ⟨e, h1, _, h2⟩ := stepX_any h
  obtain ⟨ρ, L, τ, B⟩ := t
  obtain ⟨hρ, hL, hτ, hB⟩ := hs
  simp only at hρ hL hτ hB
  subst hL; subst hτ; subst hB
  refine ⟨_, h2 ρ (fun k _ => hρ k), ⟨fun k => ?_, rfl, rfl, rfl⟩⟩
  show get (put ρ o.dst e) k = get s1.ρ k
  rw [h1, get_put, get_put, hρ]

theorem swap {kx ky : Nat} {x y : Oper} {s s1 s2 : St} {a b : List Acc} (hy : stepX T flip C ops ky y s = some (s1, b)) (hx : stepX T flip C ops kx x s1 = some (s2, a)) (hap : x.apart ops.toArray y = true) (hcl : clashL b a = false)
    (hr : ∀ z, z ∈ x.op.operands.toList → inR (dom s.L) (eval s.ρ z)) : ∃ t1 t2, stepX T flip C ops kx x s = some (t1, a) ∧ stepX T flip C ops ky y t1 = some (t2, b) ∧ Sim s2 t2 := by
  obtain ⟨p1, p2, p3⟩ := Oper.apart_spec hap
  obtain ⟨ey, y1, yf, ya⟩ := stepX_any hy
  obtain ⟨ex, x1, xf, xa⟩ := stepX_any hx
  have agx : AgreeOn (x.looksAt ops.toArray) s1.ρ s.ρ := fun t ht => by
    rw [y1, get_put, if_neg (fun e => p3 t e ht)]
  have hcomm : ∀ d e k, get (put (put s.ρ y.dst e) x.dst d) k = get (put (put s.ρ x.dst d) y.dst e) k := fun d e k => by
    simp only [get_put]
    by_cases h1 : x.dst = some k
    · rw [if_pos h1, if_neg (p2 k h1), if_pos h1]
    · rw [if_neg h1, if_neg h1]
  have hrn : ∀ i z, z ∈ a → boxOf z = some i → dom s.L i := fun i z hz hi => stepX_range hx (fun q hq => by
    rw [← eval_agree agx q hq]; exact hr q hq) hz hi
  have back : ∀ i ds, (Acc.rdL i ∈ a ∨ Acc.wrL i ∈ a) → Acc.wrL i ∉ b → s1.L[i]? = some (some ds) → s.L[i]? = some (some ds) := fun i ds hi hn hl => by
    obtain ⟨es, he⟩ : dom s.L i := by
      rcases hi with hi | hi
      · exact hrn i _ hi rfl
      · exact hrn i _ hi rfl
    have := yf.L i es he hn
    rw [hl] at this
    rw [he]; exact this.symm
  rcases stepX_kind hx with ⟨_, _, e, hs2, hX⟩ | ⟨xal, xst, e, z, hkx, hs2, hX⟩ | ⟨xst, hX⟩
  · -- x changes nothing
    refine ⟨_, _, hX s agx ⟨fun i ds hi hl => back i ds (.inl hi) (fun hw => by have := clash_false hcl hw hi; simp [Acc.clash] at this) hl, fun hi => ?_⟩, ya _ (agree_put p1), ⟨fun k => ?_, ?_, ?_, ?_⟩⟩
    · exact (yf.B (fun hw => by have := clash_false hcl hw hi; simp [Acc.clash] at this)).symm
    · show get (put (put s.ρ x.dst e) y.dst ey) k = get s2.ρ k
      rw [hs2, y1, hcomm]
    · rw [hs2]
    · rw [hs2]
    · rw [hs2]
  all_goals
    rcases stepX_kind hy with ⟨_, _, f, hs1, hY⟩ | ⟨yal, yst, f, u, hky, hs1, hY⟩ | ⟨yst, hY⟩
  · -- x lays a box, y changes nothing
    have h1 := xa s.ρ agx
    have hs : ({ s1 with ρ := s.ρ } : St) = s := by rw [hs1]
    rw [hs] at h1
    refine ⟨_, _, h1, hY _ (agree_put p1) ⟨fun i ds hi hl => xf.L i ds (by rw [hs1]; exact hl) (fun hw => by have := clash_false hcl hi hw; simp [Acc.clash] at this), fun hi => ?_⟩, ⟨fun k => ?_, rfl, rfl, rfl⟩⟩
    · have := xf.B (fun hw => by have := clash_false hcl hi hw; simp [Acc.clash] at this)
      show s2.B = _
      rw [this, hs1]
    · show get (put (put s.ρ x.dst ex) y.dst f) k = get s2.ρ k
      rw [x1, ← hcomm, hs1]
  · -- both lay a box
    have hne : kx ≠ ky := fun e => hkx (by rw [hs1, e]; exact dom_ins.2 (.inl rfl))
    have hkx' : ¬ dom s.L kx := fun h => hkx (by rw [hs1]; exact dom_ins.2 (.inr h))
    refine ⟨_, _, hX s agx hkx', hY _ (agree_put p1) (fun h => (dom_ins.1 h).elim (fun e => hne e.symm) hky), ⟨fun k => ?_, ?_, ?_, ?_⟩⟩
    · show get (put (put s.ρ x.dst e) y.dst f) k = get s2.ρ k
      rw [hs2]
      show _ = get (put s1.ρ x.dst e) k
      rw [hs1, hcomm]
    · rw [hs2, hs1]; exact ins_comm hne _ _
    · rw [hs2, hs1]
    · rw [hs2, hs1]
  · -- x lays a box, y is another one
    have hext : Acc.ext ∉ b := fun h => by have := clash_false hcl h xal; simp [Acc.clash] at this
    obtain ⟨f, F, hch, hL, hρ, hY⟩ := hY hext
    have hkx' : ¬ dom s.L kx := fun h => hkx (yf.dom kx h)
    have hins : ∀ i ds, s.L[i]? = some (some ds) → (ins s.L kx z)[i]? = some (some ds) := fun i ds h => ins_get.2 (.inr ⟨fun e => hkx' (e ▸ ⟨ds, h⟩), h⟩)
    refine ⟨_, _, hX s agx hkx', hY _ (agree_put p1) rfl rfl ⟨fun i ds _ h => hins i ds h, fun _ => rfl⟩ (fun i ds _ h => hins i ds h), ⟨fun k => ?_, ?_, ?_, ?_⟩⟩
    · show get (put (put s.ρ x.dst e) y.dst f) k = get s2.ρ k
      rw [hs2]
      show _ = get (put s1.ρ x.dst e) k
      rw [hρ, hcomm]
    · rw [hs2]
      show F (ins s.L kx z) = ins s1.L kx z
      rw [hL]
      exact chg_ins hch (fun i ds h _ => ⟨ds, h⟩) hkx' z
    · rw [hs2]
    · rw [hs2]
  · -- y changes nothing
    have h1 := xa s.ρ agx
    have hs : ({ s1 with ρ := s.ρ } : St) = s := by rw [hs1]
    rw [hs] at h1
    refine ⟨_, _, h1, hY _ (agree_put p1) ⟨fun i ds hi hl => xf.L i ds (by rw [hs1]; exact hl) (fun hw => by have := clash_false hcl hi hw; simp [Acc.clash] at this), fun hi => ?_⟩, ⟨fun k => ?_, rfl, rfl, rfl⟩⟩
    · have := xf.B (fun hw => by have := clash_false hcl hi hw; simp [Acc.clash] at this)
      show s2.B = _
      rw [this, hs1]
    · show get (put (put s.ρ x.dst ex) y.dst f) k = get s2.ρ k
      rw [x1, ← hcomm, hs1]
  · -- y lays a box
    have hext : Acc.ext ∉ a := fun h => by have := clash_false hcl yal h; simp [Acc.clash] at this
    obtain ⟨e, F, hch, hL, hρ, hX⟩ := hX hext
    have hwb : ∀ i, Acc.wrL i ∉ b := fun i h => by
      have h2 := stepX_kind hy
      obtain ⟨o1, o2⟩ := alloc_accs hy yal
      rw [o2] at h; simp at h
    have hτ1 : s1.τ = s.τ := by rw [hs1]
    have hB1 : s1.B = s.B := by rw [hs1]
    have hlive : ∀ i ds, s1.L[i]? = some (some ds) → Acc.wrL i ∈ a → dom s.L i := fun i ds h hw => ⟨ds, back i ds (.inr hw) (hwb i) h⟩
    have h1 := hX s agx hτ1.symm hB1.symm ⟨fun i ds hi hl => back i ds (.inl hi) (hwb i) hl, fun _ => hB1.symm⟩ (fun i ds hi hl => back i ds (.inr hi) (hwb i) hl)
    have hk : ¬ dom (F s.L) ky := fun h => hky (chg_dom hch hlive h)
    refine ⟨_, _, h1, hY _ (agree_put p1) hk, ⟨fun k => ?_, ?_, rfl, rfl⟩⟩
    · show get (put (put s.ρ x.dst e) y.dst f) k = get s2.ρ k
      rw [hρ, hs1, hcomm]
    · show ins (F s.L) ky u = s2.L
      rw [hL, hs1]
      exact (chg_ins hch hlive hky u).symm
  · have := clash_false hcl yst xst
    simp [Acc.clash] at this

inductive RunA (T : Tab) (flip : Nat → Nat) (C : Callees) (ops : List Oper) (A : Nat → List Acc) : List Nat → St → St → Prop
  | nil {s s' : St} (h : Sim s s') : RunA T flip C ops A [] s s'
  | cons {i : Nat} {R : List Nat} {o : Oper} {s s1 s' : St} (k : Nat) (ho : ops[i]? = some o) (hs : stepX T flip C ops k o s = some (s1, A i)) (hr : RunA T flip C ops A R s1 s') : RunA T flip C ops A (i :: R) s s'

theorem RunA.sim {A : Nat → List Acc} {R : List Nat} {s s' : St} (h : RunA T flip C ops A R s s') : ∀ {t : St}, Sim s t → RunA T flip C ops A R t s' := by
  induction h with
  | nil h => intro t ht; exact .nil (ht.symm.trans h)
  | cons k ho hs hr ih =>
    intro t ht
    obtain ⟨t1, h1, h2⟩ := sim_step hs ht
    exact .cons k ho h1 (ih h2)

/-- What comes later may come first, if it has nothing to do with what stands ahead of it. -/
theorem bubble {A : Nat → List Acc} {i : Nat} {x : Oper} (hx : ops[i]? = some x) : ∀ (pre : List Nat) {post : List Nat} {s s' : St}, RunA T flip C ops A (pre ++ i :: post) s s' →
    (∀ j, j ∈ pre → ∀ y, ops[j]? = some y → x.apart ops.toArray y = true ∧ clashL (A j) (A i) = false) → (∀ z, z ∈ x.op.operands.toList → inR (dom s.L) (eval s.ρ z)) →
    ∃ k s1, stepX T flip C ops k x s = some (s1, A i) ∧ RunA T flip C ops A (pre ++ post) s1 s'
  | [], post, s, s', h, _, _ => by
    cases h with
    | cons k ho hs hr => rw [hx] at ho; injection ho with ho; subst ho; exact ⟨k, _, hs, hr⟩
  | j :: pre, post, s, s', h, hind, hr => by
    cases h with
    | @cons _ _ y _ s1 _ ky ho hs hrun =>
      obtain ⟨hap, hcl⟩ := hind j (by simp) y ho
      obtain ⟨p1, p2, p3⟩ := Oper.apart_spec hap
      obtain ⟨ey, y1, yf, _⟩ := stepX_any hs
      have hr1 : ∀ z, z ∈ x.op.operands.toList → inR (dom s1.L) (eval s1.ρ z) := fun z hz => by
        have ag : AgreeOn (x.looksAt ops.toArray) s.ρ s1.ρ := by rw [y1]; exact agree_put p3
        rw [eval_agree ag z hz]; exact (hr z hz).mono yf.dom
      obtain ⟨kx, s2, h1, h2⟩ := bubble hx pre hrun (fun k hk => hind k (by simp [hk])) hr1
      obtain ⟨t1, t2, h3, h4, h5⟩ := swap hs h1 hap hcl hr
      exact ⟨kx, t1, h3, .cons ky ho h4 (h2.sim h5)⟩

end Go.Proofs.YtbbbhalmlboapaaDoor.V

/-
Regions whose order is drawn: whatever order is drawn, it is as in the order in which they stand.
-/
namespace Go.Proofs.YtbbbhalmlboapaaDoor.V
set_option linter.unusedSimpArgs false
set_option linter.unusedVariables false
open Go Go.RowKit

variable {T : Tab} {flip : Nat → Nat} {C : Callees} {c : Cx} {g : Gh} {w : World}

theorem Inv.sim {nt : Nat} {s t : St} {a : Act} (h : Inv c nt s a g w) (hs : Sim s t) : Inv c nt t a g w := by
  obtain ⟨ρ, L, τ, B⟩ := t
  obtain ⟨hρ, hL, hτ, hB⟩ := hs
  simp only at hρ hL hτ hB
  subst hL; subst hτ; subst hB
  exact ⟨h.fs, fun t => by have := h.env t; rw [hρ t]; exact this, h.size, h.defers⟩

theorem RepF.range {nL : Nat → Prop} {nT : Nat} {d : D} {v : Value} (h : RepF c g nL nT w d v) : inR nL d := by
  cases h with
  | undef => trivial
  | clean d v h => cases h <;> trivial
  | lptr i off hi => exact hi
  | lsl i off len sz cap hi hc => exact hi
  | _ => trivial

/-- Of two operations, of which the first one doesn't come ahead of the second one by its place alone. -/
def Facts (ops : List Oper) (A : Nat → List Acc) : Prop :=
  (∀ i j x y, j < i → ops[i]? = some x → ops[j]? = some y → ((ancM ops).getD i 0).testBit j = true ∨ (x.apart ops.toArray y = true ∧ clashL (A j) (A i) = false)) ∧
  ∀ i o e, ops[i]? = some o → e ∈ o.after.toList → Region.binds .any e = true → e.on < i

theorem runD_length {ops : List Oper} : ∀ {rest : List Oper} {s s' : St} {l : List (List Acc)}, runD T flip C ops rest s = some (s', l) → l.length = rest.length
  | [], s, s', l, h => by simp only [runD] at h; injection h with h; injection h with h1 h2; subst h2; rfl
  | o :: rest, s, s', l, h => by
    simp only [runD] at h
    split at h <;> try cases h
    split at h <;> try cases h
    rename_i hr
    simp [runD_length hr]

theorem runA_of {ops : List Oper} {A : Nat → List Acc} : ∀ {rest : List Oper} {k : Nat} {s s' : St} {l : List (List Acc)}, runD T flip C ops rest s = some (s', l) →
    (∀ m o, rest[m]? = some o → ops[k + m]? = some o) → (∀ m (hm : m < l.length), A (k + m) = l[m]) → RunA T flip C ops A (List.range' k rest.length) s s'
  | [], k, s, s', l, h, _, _ => by
    simp only [runD] at h; injection h with h; injection h with h1 h2; subst h1
    exact .nil (Sim.refl _)
  | o :: rest, k, s, s', l, h, ho, hA => by
    simp only [runD] at h
    split at h <;> try cases h
    rename_i s1 a hs
    split at h <;> try cases h
    rename_i s2 l2 hr
    simp only [List.length_cons, List.range'_succ]
    refine .cons (o := o) (s1 := s1) s.L.length (by simpa using ho 0 o rfl) (stepX_len ?_) (runA_of hr (fun m o' hm => ?_) (fun m hm => ?_))
    · have := hA 0 (by simp)
      simp at this
      rw [this]; exact hs
    · have := ho (m + 1) o' (by simpa using hm)
      rw [show k + 1 + m = k + (m + 1) by omega]; exact this
    · have := hA (m + 1) (by simpa using hm)
      rw [show k + 1 + m = k + (m + 1) by omega]; simpa using this

theorem runD_of {ops : List Oper} : ∀ {rest : List Oper} {s s' : St}, opsV T flip C ops rest s = some s' → ∃ l, runD T flip C ops rest s = some (s', l)
  | [], s, s', h => by simp only [opsV] at h; injection h with h; subst h; exact ⟨[], rfl⟩
  | o :: rest, s, s', h => by
    simp only [opsV] at h
    split at h
    · rename_i hw
      split at h
      · rename_i d st1 ho
        obtain ⟨l, hl⟩ := runD_of h
        exact ⟨accs flip s.ρ s.B st1.B o :: l, by simp only [runD, stepD, hw, ho, hl]⟩
      · cases h
    · rename_i hw
      obtain ⟨l, hl⟩ := runD_of h
      exact ⟨[] :: l, by simp only [runD, stepD, hw, hl]⟩
    · cases h

theorem accP_of {d : D} {x : Acc} (h : x ∈ accP d) : (∃ i, x = .rdL i) ∨ x = .rdB := by
  cases d <;> simp [accP] at h <;> first | exact .inl ⟨_, h⟩ | exact .inr h

theorem accW_of {d : D} {x : Acc} (h : x ∈ accW d) : (∃ i, x = .wrL i) ∨ x = .wrB := by
  cases d <;> simp [accW] at h <;> first | exact .inl ⟨_, h⟩ | exact .inr h

/-- What an access says of its operation's text. -/
def AccOk (flip : Nat → Nat) (o : Oper) : Acc → Prop
  | .st => simpleOp flip o = false ∧ isAl flip o = false
  | .al => simpleOp flip o = false ∧ isAl flip o = true
  | .ext => isExt flip o = true ∧ simpleOp flip o = false
  | .rdL _ | .rdB => isR o = true
  | .wrL _ | .wrB => isW flip o = true

theorem accP_ok {o : Oper} (ho : isR o = true) {d : D} {x : Acc} (h : x ∈ accP d) : AccOk flip o x := by
  rcases accP_of h with ⟨i, rfl⟩ | rfl <;> exact ho
theorem accW_ok {o : Oper} (ho : isW flip o = true) {d : D} {x : Acc} (h : x ∈ accW d) : AccOk flip o x := by
  rcases accW_of h with ⟨i, rfl⟩ | rfl <;> exact ho

theorem accs_ok {ρ : Env} {B : Hp} {o : Oper} {x : Acc} (h : x ∈ accs flip ρ B B o) : AccOk flip o x := by
  have h0 := h
  unfold accs at h
  by_cases hst : x ∈ (bif simpleOp flip o then [] else bif isAl flip o then [Acc.al] else bif isExt flip o then [Acc.st, Acc.ext] else [Acc.st])
  · cases hs : simpleOp flip o <;> cases ha : isAl flip o <;> cases he : isExt flip o <;> rw [hs, ha, he] at hst <;> simp at hst <;> first | (subst hst; exact ⟨hs, ha⟩) | (rcases hst with rfl | rfl; exact ⟨hs, ha⟩; exact ⟨he, hs⟩)
  · replace h := (List.mem_append.1 h).resolve_left hst
    clear h0 hst
    obtain ⟨dst, op, ty, pos, af, gd⟩ := o
    cases op <;> simp only at h <;> try (cases h; done)
    case load t a => exact accP_ok rfl h
    case store t a y => exact accW_ok rfl h
    case convert t u y => exact accP_ok rfl h
    case alloc e =>
      cases hb : Nat.beq (flipD flip dst) 0 <;> rw [hb] at h <;> simp at h
      subst h
      show isW flip _ = true
      simp only [isW, hb, Bool.not_false]
    case box e y =>
      cases hb : Nat.beq (flipD flip dst) 0 <;> cases hb1 : Nat.beq (flipD flip dst) 1 <;> rw [hb, hb1] at h <;> simp at h
      subst h
      show isW flip _ = true
      simp only [isW, hb, hb1, Bool.not_false, Bool.and_self]
    case call cl =>
      cases hc : cl.callee with
      | builtin b =>
        rw [hc] at h
        cases b <;> simp only at h <;> try (cases h; done)
        · split at h
          · exact accP_ok (by simp [isR, hc]) h
          · cases h
        · split at h
          · rcases List.mem_append.1 h with h | h
            · exact accW_ok (by simp [isW, hc]) h
            · exact accP_ok (by simp [isR, hc]) h
          · cases h
      | value f =>
        rw [hc] at h
        simp only [if_true] at h
        rcases List.mem_cons.1 h with h | h
        · subst h; show isR _ = true; simp [isR, hc]
        · obtain ⟨l, hl, hi⟩ := List.mem_flatten.1 h
          obtain ⟨d, hd, rfl⟩ := List.mem_map.1 hl
          exact accP_ok (by simp [isR, hc]) hi
      | invoke q m =>
        rw [hc] at h
        simp only [if_true] at h
        rcases List.mem_cons.1 h with h | h
        · subst h; show isR _ = true; simp [isR, hc]
        · obtain ⟨l, hl, hi⟩ := List.mem_flatten.1 h
          obtain ⟨d, hd, rfl⟩ := List.mem_map.1 hl
          exact accP_ok (by simp [isR, hc]) hi

theorem accs_calls {ρ : Env} {B B' : Hp} {o : Oper} (h : ∀ c, o.op = .call c → ∀ f, c.callee = .value f → B' = B) (hi : ∀ c, o.op = .call c → ∀ r m, c.callee = .invoke r m → B' = B) : accs flip ρ B B' o = accs flip ρ B B o := by
  obtain ⟨dst, op, ty, pos, af, gd⟩ := o
  cases op
  case call cl =>
    cases hc : cl.callee with
    | builtin b => simp only [accs, hc]; cases b <;> rfl
    | value f => rw [h cl rfl f hc]
    | invoke r m => rw [hi cl rfl r m hc]
  all_goals rfl

theorem keepB_inv {f : FuncId} {args : List D} {B B' : Hp} {r : D} (h : keepB C f args B = some (r, B')) : B' = B ∧ C f args B = some (r, B') := by
  unfold keepB at h
  split at h
  · rename_i r' B2 hc
    split at h
    · rename_i hb
      injection h with h; injection h with h1 h2; subst h1; subst h2
      exact ⟨hb, hc⟩
    · cases h
  · cases h

theorem keepB_ok (hC : CallOK c C) : CallOK c (keepB C) := fun f args B r B' h => hC f args B r B' (keepB_inv h).2

theorem callOp_keeps {s s' : St} {fl : Nat} {f d : D} {args : List D} (h : callOpV (keepB C) fl s f args = some (d, s')) : s'.B = s.B := by
  unfold callOpV at h
  simp only [Bool.cond_eq_ite] at h
  repeat' (split at h <;> try cases h)
  · rename_i hk _
    exact (keepB_inv hk).1
  · rfl
  · rfl
  · rename_i hk _ _
    exact (keepB_inv hk).1

theorem step_accs {ops : List Oper} {o : Oper} {s s1 : St} {a : List Acc} (h : stepD T flip (keepB C) ops o s = some (s1, a)) {x : Acc} (hx : x ∈ a) : AccOk flip o x := by
  unfold stepD at h
  split at h
  · split at h
    · rename_i d st' ho
      injection h with h; injection h with h1 h2; subst h1; subst h2
      rw [accs_calls (fun c hc f hf => by
        obtain ⟨dst, op, ty, pos, af, gd⟩ := o
        simp only at hc
        subst hc
        simp only [opV, hf] at ho
        exact callOp_keeps ho) (fun c hc r m hf => by
        obtain ⟨dst, op, ty, pos, af, gd⟩ := o
        simp only at hc
        subst hc
        simp only [opV, hf] at ho
        cases ho)] at hx
      exact accs_ok hx
    · cases h
  · injection h with h; injection h with h1 h2; subst h1; subst h2
    cases hx
  · cases h

theorem al_ext (o : Oper) (h : isAl flip o = true) : isExt flip o = false := by
  unfold isAl at h
  split at h
  · rename_i e he; unfold isExt; rw [he]
  · cases h

theorem calm_clash {x y : Oper} {a b : List Acc} (hc : calm flip x y = true) (ha : ∀ e, e ∈ a → AccOk flip x e) (hb : ∀ e, e ∈ b → AccOk flip y e) : clashL b a = false := by
  unfold calm at hc
  simp only [Bool.and_eq_true, Bool.or_eq_true, Bool.not_eq_true', Bool.and_eq_false_iff] at hc
  obtain ⟨⟨h1, h2⟩, h3⟩ := hc
  unfold clashL
  rw [List.any_eq_false]
  intro e he hcl
  rw [List.any_eq_true] at hcl
  obtain ⟨k, hk, hek⟩ := hcl
  have p := hb e he
  have q := ha k hk
  have e1 := al_ext (flip := flip) x
  have e2 := al_ext (flip := flip) y
  cases e <;> cases k <;> simp [Acc.clash] at hek <;> simp [AccOk] at p q <;> simp_all

theorem runD_at {ops : List Oper} : ∀ {rest : List Oper} {s s' : St} {l : List (List Acc)}, runD T flip (keepB C) ops rest s = some (s', l) → ∀ (m : Nat) (o : Oper) (a : List Acc), rest[m]? = some o → l[m]? = some a → ∀ x, x ∈ a → AccOk flip o x
  | [], s, s', l, h, m, o, a, ho, _ => by simp at ho
  | o :: rest, s, s', l, h, m, o', a, ho, ha => by
    simp only [runD] at h
    split at h <;> try cases h
    rename_i s1 a1 hs
    split at h <;> try cases h
    rename_i s2 l2 hr
    cases m with
    | zero =>
      simp at ho ha
      subst ho; subst ha
      exact fun x hx => step_accs hs hx
    | succ m => exact runD_at hr m o' a (by simpa using ho) (by simpa using ha)

theorem against_at {α : Type} {f : α → Bool} {m : Nat} : ∀ {l : List α} {k : Nat}, against f m l k = true → ∀ (j : Nat) (y : α), l[j]? = some y → f y = true ∨ m.testBit (k + j) = true
  | [], k, _, j, y, hy => by simp at hy
  | z :: r, k, h, j, y, hy => by
    simp only [against, Bool.and_eq_true, Bool.or_eq_true] at h
    cases j with
    | zero => simp at hy; subst hy; exact h.1
    | succ j =>
      have := against_at h.2 j y (by simpa using hy)
      rw [show k + (j + 1) = k + 1 + j by omega]
      exact this

theorem pairs_at {α : Type} {f : α → α → Bool} {all : List α} : ∀ {l : List α} {ms : List Nat} {i0 : Nat}, allPairs f all l ms i0 = true → ∀ (i j : Nat) (x y : α), l[i]? = some x → all[j]? = some y → j < i0 + i → f x y = true ∨ (ms.getD i 0).testBit j = true
  | [], _, i0, _, i, j, x, y, hx, _, _ => by simp at hx
  | z :: r, [], i0, h, i, j, x, y, hx, _, _ => by simp [allPairs] at h
  | z :: r, m :: ms, i0, h, i, j, x, y, hx, hy, hj => by
    simp only [allPairs, Bool.and_eq_true] at h
    cases i with
    | zero =>
      simp at hx; subst hx
      have := against_at h.1 j y (by rw [List.getElem?_take_of_lt (by omega)]; exact hy)
      simpa using this
    | succ i =>
      have := pairs_at h.2 i j x y (by simpa using hx) hy (by omega)
      simpa using this

theorem back_at : ∀ {l : List Oper} {i0 : Nat}, backOk l i0 = true → ∀ (i : Nat) (o : Oper) (e : Edge), l[i]? = some o → e ∈ o.after.toList → Region.binds .any e = true → e.on < i0 + i
  | [], i0, _, i, o, e, ho, _, _ => by simp at ho
  | z :: r, i0, h, i, o, e, ho, he, hb => by
    simp only [backOk, Bool.and_eq_true, List.all_eq_true, Bool.or_eq_true, Bool.not_eq_true'] at h
    cases i with
    | zero =>
      simp at ho; subst ho
      exact Nat.blt_lt ((h.1 e he).resolve_left (by simp [hb]))
    | succ i =>
      have := back_at h.2 i o e (by simpa using ho) he hb
      omega

theorem facts_apart {ops : List Oper} {A : Nat → List Acc} (ha : apartAll ops = true) (hk : ∀ i j x y, j < i → ops[i]? = some x → ops[j]? = some y → ((ancM ops).getD i 0).testBit j = true ∨ clashL (A j) (A i) = false) : Facts ops A := by
  unfold apartAll at ha
  simp only [Bool.and_eq_true] at ha
  constructor
  · intro i j x y hji hx hy
    rcases pairs_at ha.2 i j x y hx hy (by omega) with h1 | h1
    · rcases hk i j x y hji hx hy with h2 | h2
      · exact .inl h2
      · exact .inr ⟨h1, h2⟩
    · exact .inl h1
  · intro i o e ho he hb
    have := back_at ha.1 i o e ho he hb
    omega

/-- By their text. -/
theorem facts_of {ops : List Oper} {l : List (List Acc)} (hl : l.length = ops.length) (ha : apartAll ops = true) (hca : calmAll flip ops = true) (hk : ∀ (m : Nat) (o : Oper) (a : List Acc), ops[m]? = some o → l[m]? = some a → ∀ x, x ∈ a → AccOk flip o x) : Facts ops (fun i => l.getD i []) := by
  refine facts_apart ha (fun i j x y hji hx hy => ?_)
  have hi : i < ops.length := (List.getElem?_eq_some_iff.1 hx).1
  rcases pairs_at hca i j x y hx hy (by omega) with h2 | h1
  · have hj : j < l.length := by omega
    have hi' : i < l.length := by omega
    refine .inr ?_
    simp only [List.getD_eq_getElem?_getD, List.getElem?_eq_getElem hj, List.getElem?_eq_getElem hi', Option.getD_some]
    exact calm_clash h2 (hk i x _ hx (List.getElem?_eq_getElem hi')) (hk j y _ hy (List.getElem?_eq_getElem hj))
  · exact .inl h1

/-- By what they touch. -/
theorem facts_dyn {ops : List Oper} {l : List (List Acc)} (hl : l.length = ops.length) (ha : apartAll ops = true) (hk : okAccs ops l = true) : Facts ops (fun i => l.getD i []) := by
  refine facts_apart ha (fun i j x y hji hx hy => ?_)
  have hi : i < ops.length := (List.getElem?_eq_some_iff.1 hx).1
  have hj : j < l.length := by omega
  have hi' : i < l.length := by omega
  rcases pairs_at hk i j _ _ (List.getElem?_eq_getElem hi') (List.getElem?_eq_getElem hj) (by omega) with h2 | h2
  · refine .inr ?_
    simp only [List.getD_eq_getElem?_getD, List.getElem?_eq_getElem hj, List.getElem?_eq_getElem hi', Option.getD_some]
    simpa using h2
  · exact .inl h2

/-- Whatever comes ahead of what is ready is listed. -/
theorem ancOf_listed {acc : List Nat} {listed : Array Bool} {j : Nat} (hacc : ∀ i j, listed.getD i false = true → (acc.getD i 0).testBit j = true → listed.getD j false = true) : ∀ {es : List Edge}, (∀ e, e ∈ es → Region.binds .any e = true → listed.getD e.on false = true) → (ancOf acc es).testBit j = true → listed.getD j false = true
  | [], _, h => by simp [ancOf] at h
  | e :: r, he, h => by
    simp only [ancOf] at h
    cases hb : Region.binds .any e with
    | false =>
      rw [hb] at h
      exact ancOf_listed hacc (fun e' he' => he e' (by simp [he'])) h
    | true =>
      rw [hb] at h
      simp only [cond_true, Nat.testBit_or, Bool.or_eq_true] at h
      have hl := he e (by simp) hb
      rcases h with (h | h) | h
      · rw [Nat.testBit_two_pow] at h
        have : e.on = j := by simpa using h
        rw [← this]; exact hl
      · exact hacc e.on j hl h
      · exact ancOf_listed hacc (fun e' he' => he e' (by simp [he'])) h

theorem ancGo_listed {listed : Array Bool} : ∀ {rest : List Oper} {acc : List Nat},
    (∀ i o, rest[i]? = some o → listed.getD (acc.length + i) false = true → ∀ e, e ∈ o.after.toList → Region.binds .any e = true → listed.getD e.on false = true) →
    (∀ i j, listed.getD i false = true → (acc.getD i 0).testBit j = true → listed.getD j false = true) →
    (∀ i j, listed.getD i false = true → ((ancGo acc rest).getD i 0).testBit j = true → listed.getD j false = true) ∧
      ∀ i o j, rest[i]? = some o → (∀ e, e ∈ o.after.toList → Region.binds .any e = true → listed.getD e.on false = true) → ((ancGo acc rest).getD (acc.length + i) 0).testBit j = true → listed.getD j false = true
  | [], acc, _, hacc => ⟨hacc, fun i o j ho => by simp at ho⟩
  | o :: r, acc, hcl, hacc => by
    have hnew : ∀ i j, listed.getD i false = true → ((acc ++ [ancOf acc o.after.toList]).getD i 0).testBit j = true → listed.getD j false = true := fun i j hi h => by
      simp only [List.getD_eq_getElem?_getD] at h
      rcases Nat.lt_trichotomy i acc.length with hlt | heq | hgt
      · rw [List.getElem?_append_left hlt] at h
        exact hacc i j hi (by simpa only [List.getD_eq_getElem?_getD] using h)
      · subst heq
        rw [List.getElem?_append_right (Nat.le_refl _)] at h
        simp at h
        exact ancOf_listed hacc (hcl 0 o rfl (by simpa using hi)) h
      · rw [List.getElem?_eq_none (by simp; omega)] at h
        simp at h
    have hrec := ancGo_listed (rest := r) (acc := acc ++ [ancOf acc o.after.toList]) (fun i o' ho hl => by
      have := hcl (i + 1) o' (by simpa using ho)
      refine this ?_
      simp only [List.length_append, List.length_cons, List.length_nil] at hl
      rw [show acc.length + (i + 1) = acc.length + (0 + 1) + i by omega]; exact hl) hnew
    refine ⟨hrec.1, fun i o' j ho he h => ?_⟩
    cases i with
    | succ i =>
      refine hrec.2 i o' j (by simpa using ho) he ?_
      simp only [List.length_append, List.length_cons, List.length_nil]
      rw [show acc.length + (0 + 1) + i = acc.length + (i + 1) by omega]; exact h
    | zero =>
      simp at ho; subst ho
      have hpre : ∀ (rest : List Oper) (acc : List Nat) (k : Nat), k < acc.length → (ancGo acc rest).getD k 0 = acc.getD k 0 := by
        intro rest
        induction rest with
        | nil => intro acc k _; rfl
        | cons o r ih =>
          intro acc k hk
          simp only [ancGo]
          rw [ih _ _ (by simp; omega)]
          simp only [List.getD_eq_getElem?_getD, List.getElem?_append_left hk]
      have hval : ((ancGo acc (o :: r)).getD (acc.length + 0) 0) = ancOf acc o.after.toList := by
        simp only [ancGo, Nat.add_zero]
        rw [hpre _ _ _ (by simp)]
        simp [List.getD_eq_getElem?_getD]
      rw [hval] at h
      exact ancOf_listed hacc he h

theorem anc_listed {ops : List Oper} {listed : Array Bool} (hcl : ∀ i o, ops[i]? = some o → listed.getD i false = true → ∀ e, e ∈ o.after.toList → Region.binds .any e = true → listed.getD e.on false = true)
    (i j : Nat) (o : Oper) (ho : ops[i]? = some o) (he : ∀ e, e ∈ o.after.toList → Region.binds .any e = true → listed.getD e.on false = true) (h : ((ancM ops).getD i 0).testBit j = true) : listed.getD j false = true := by
  have := (ancGo_listed (rest := ops) (acc := []) (fun i o ho hl => hcl i o ho (by simpa using hl)) (fun i j _ h => by simp at h)).2 i o j ho he
  exact this (by simpa [ancM] using h)

theorem any_spec (hT : TabOk c.P T) (hC : CallOK c C) {nt : Nat} {ops : List Oper} {A : Nat → List Acc} {Q : Exit → Act → World → Prop} {st' : St} (hfa : Facts ops A) (hd : ops.all (dstOk nt) = true)
    (hq : ∀ g' a' w', Inv c nt st' a' g' w' → Q .normal a' w') : ∀ (fuel : Nat) (R : List Nat) (listed : Array Bool) (st : St) (a : Act) (g : Gh) (w : World),
    R.Pairwise (· < ·) → (∀ i, i ∈ R ↔ i < ops.length ∧ listed.getD i true = false) → R.length = fuel → listed.size = ops.length →
    (∀ i o, ops[i]? = some o → listed.getD i false = true → ∀ e, e ∈ o.after.toList → Region.binds .any e = true → listed.getD e.on false = true) →
    RunA T flip C ops A R st st' → Inv c nt st a g w → wpAny c.P .any ops.toArray Q fuel listed a w := by
  have hsame : ∀ (listed : Array Bool), listed.size = ops.length → ∀ i, i < ops.length → listed.getD i true = listed.getD i false := fun listed hs i hi => by
    simp [hs, hi]
  have hnil : ∀ (R : List Nat) (listed : Array Bool) (st : St) (a : Act) (g : Gh) (w : World), listed.size = ops.length → R.Pairwise (· < ·) → (∀ i, i ∈ R ↔ i < ops.length ∧ listed.getD i true = false) →
      RunA T flip C ops A R st st' → Inv c nt st a g w → Region.ready .any ops.toArray listed = [] → Q .normal a w := by
    intro R listed st a g w hsz hp hR hrun hi hr
    cases R with
    | nil =>
      cases hrun with
      | nil hs => exact hq g a w (hi.sim hs)
    | cons i R =>
      exfalso
      have him := (hR i).1 (by simp)
      have : i ∈ Region.ready .any ops.toArray listed := by
        rw [mem_ready]
        refine ⟨him.2, ops[i]'him.1, by simp [him.1], fun e he hb => ?_⟩
        have hon := hfa.2 i _ e (List.getElem?_eq_getElem him.1) (by simpa using he) hb
        have hlt : e.on < ops.length := Nat.lt_trans hon him.1
        rw [← hsame listed hsz _ hlt]
        cases hl : listed.getD e.on true with
        | true => rfl
        | false =>
          have hm := (hR e.on).2 ⟨hlt, hl⟩
          rcases List.mem_cons.1 hm with hm | hm
          · omega
          · have := (List.pairwise_cons.1 hp).1 _ hm
            omega
      rw [hr] at this
      cases this
  intro fuel
  induction fuel with
  | zero =>
    intro R listed st a g w hp hR hlen hsz hcl hrun hi
    have h0 : R = [] := List.length_eq_zero_iff.1 hlen
    have hr : Region.ready .any ops.toArray listed = [] := by
      cases hr : Region.ready .any ops.toArray listed with
      | nil => rfl
      | cons i l =>
        exfalso
        have hm : i ∈ Region.ready .any ops.toArray listed := by rw [hr]; simp
        obtain ⟨h1, o, ho, _⟩ := mem_ready.1 hm
        have hlt : i < ops.length := by
          have := (Array.getElem?_eq_some_iff.1 ho).1
          simpa using this
        have := (hR i).2 ⟨hlt, h1⟩
        rw [h0] at this
        cases this
    exact ⟨hr, hnil R listed st a g w hsz hp hR hrun hi hr⟩
  | succ fuel ih =>
    intro R listed st a g w hp hR hlen hsz hcl hrun hi
    refine ⟨fun hr => hnil R listed st a g w hsz hp hR hrun hi hr, fun i hm => ?_⟩
    obtain ⟨h1, o, ho, hall⟩ := mem_ready.1 hm
    have ho' : ops[i]? = some o := by simpa using ho
    have hlt : i < ops.length := (List.getElem?_eq_some_iff.1 ho').1
    have hall' : ∀ e, e ∈ o.after.toList → Region.binds .any e = true → listed.getD e.on false = true := fun e he hb => hall e (by simpa using he) hb
    obtain ⟨pre, post, hsplit⟩ := List.append_of_mem ((hR i).2 ⟨hlt, h1⟩)
    subst hsplit
    have hpre : ∀ j, j ∈ pre → j < i := fun j hj => (List.pairwise_append.1 hp).2.2 j hj i (by simp)
    have hpost : ∀ j, j ∈ post → i < j := fun j hj => (List.pairwise_cons.1 (List.pairwise_append.1 hp).2.1).1 j hj
    obtain ⟨kx, s1, hs, hrun'⟩ := bubble ho' pre hrun (fun j hj y hy => by
      have hji := hpre j hj
      refine (hfa.1 i j o y hji ho' hy).resolve_left (fun hanc => ?_)
      have hl := anc_listed hcl i j o ho' hall' hanc
      have := ((hR j).1 (by simp [hj])).2
      rw [hsame listed hsz j (by omega), hl] at this
      cases this) (fun z hz => (hi.env.eval z).range)
    have hdo : dstOk nt o = true := List.all_eq_true.1 hd o (List.mem_of_getElem? ho')
    have hstep : ∀ (g' : Gh) (a' : Act) (w' : World), Inv c nt s1 a' g' w' → wpAny c.P .any ops.toArray Q fuel (listed.setIfInBounds i true) a' w' := fun g' a' w' hi' => by
      refine ih (pre ++ post) _ s1 a' g' w' ?_ (fun j => ?_) (by simp at hlen ⊢; omega) (by simp [hsz]) (fun j oj hj hlj e he hb => ?_) hrun' hi'
      · exact List.Pairwise.sublist (List.Sublist.append_left (List.sublist_cons_self i post) pre) hp
      · by_cases hij : i = j
        · subst hij
          constructor
          · intro h
            rcases List.mem_append.1 h with h | h
            · exact absurd (hpre _ h) (Nat.lt_irrefl _)
            · exact absurd (hpost _ h) (Nat.lt_irrefl _)
          · intro h
            have := h.2
            simp [hsz, hlt] at this
        · rw [getD_set_ne true hij, ← hR j]
          simp [Ne.symm hij]
      · by_cases hij : i = j
        · subst hij
          rw [ho'] at hj; injection hj with hj; subst hj
          exact getD_set_true (hall' e he hb)
        · rw [getD_set_ne false hij] at hlj
          exact getD_set_true (hcl j oj hj hlj e he hb)
    unfold wpOp
    rw [ho]
    simp only []
    unfold stepX at hs
    split at hs
    · rename_i e he
      split at hs
      · rename_i hw
        have hwant := wanted_of hi.env hw
        rw [hwant]
        simp only [if_true]
        split at hs
        · rename_i ti ht
          split at hs
          · cases hs
          · rename_i hk
            injection hs with hs; injection hs with e1 e2
            refine .inl (op_alloc_at (st := st) hT hk (alOf_some he).1 hi.fs ht _ Q (fun v w' g' f1 f2 f3 => ?_))
            refine hstep g' _ w' ?_
            rw [← e1]
            exact inv_put (st' := { st with L := ins st.L kx ti.zero.cells }) hi hdo f1 f2 f3
        · cases hs
      · rename_i hw
        have hwant := wanted_of hi.env hw
        rw [hwant]
        simp only [Bool.false_eq_true, if_false]
        injection hs with hs; injection hs with e1 e2
        refine hstep g _ w ?_
        rw [← e1]
        exact inv_put hi hdo hi.fs (Gle.refl _ _ _ _ _) (.tuple [] #[] rfl (fun i d hi => by simp at hi))
      · cases hs
    unfold stepD at hs
    split at hs
    · rename_i hw
      have hwant := wanted_of hi.env hw
      rw [hwant]
      simp only [if_true]
      split at hs
      · rename_i d st1 hop
        injection hs with hs; injection hs with e1 e2
        refine .inl (op_all hT hC hi.fs hi.env hop _ Q (fun v w' g' f1 f2 f3 => ?_))
        refine hstep g' _ w' ?_
        rw [← e1]
        exact inv_put hi hdo f1 f2 f3
      · cases hs
    · rename_i hw
      have hwant := wanted_of hi.env hw
      rw [hwant]
      simp only [Bool.false_eq_true, if_false]
      injection hs with hs; injection hs with e1 e2
      refine hstep g _ w ?_
      rw [← e1]
      exact inv_put hi hdo hi.fs (Gle.refl _ _ _ _ _) (.tuple [] #[] rfl (fun i d hi => by simp at hi))
    · cases hs

theorem drawOK (hm : c.P.follows .mixedOrders = true) (hT : TabOk c.P T) (hC : CallOK c C) : DrawOK c T C := by
  intro flip nt id ops dyn st st' a g w Q h hi hd hap hcd hq
  obtain ⟨C', hC', l, hr, hfa⟩ : ∃ C', CallOK c C' ∧ ∃ l, runD T flip C' ops.toList ops.toList st = some (st', l) ∧ Facts ops.toList (fun i => l.getD i []) := by
    simp only [regionV, Bool.true_and] at h
    cases dyn with
    | true =>
      simp only [cond_true] at h
      split at h <;> try cases h
      rename_i s' l hr
      cases hok : okAccs ops.toList l with
      | false => rw [hok] at h; cases h
      | true =>
        rw [hok] at h
        simp only [cond_true] at h
        injection h with h; subst h
        exact ⟨C, hC, l, hr, facts_dyn (runD_length hr) hap hok⟩
    | false =>
      simp only [CC, cond_true, cond_false] at h
      obtain ⟨l, hr⟩ := runD_of h
      exact ⟨keepB C, keepB_ok hC, l, hr, facts_of (runD_length hr) hap (by simpa using hcd) (runD_at hr)⟩
  have hlen := runD_length hr
  obtain ⟨f1, f2⟩ := hi.fs.same (w' := { w with drawn := w.drawn + 1 }) rfl rfl rfl rfl
  have hi2 : Inv c nt st a g { w with drawn := w.drawn + 1 } := ⟨f1, hi.env.mono f2, hi.size, hi.defers⟩
  have hrun := runA_of (A := fun i => l.getD i []) (k := 0) hr (fun m o hm => by simpa using hm) (fun m hm => by simp [hm])
  have := any_spec (Q := Q) hT hC' hfa hd hq ops.size (List.range' 0 ops.toList.length) (Array.replicate ops.size false) st a g _ List.pairwise_lt_range' (fun i => by
      have hlen : ops.toList.length = ops.size := by simp
      simp only [List.mem_range'_1, hlen]
      constructor
      · rintro ⟨_, h⟩; exact ⟨by omega, by
          have hi : i < ops.size := by omega
          simp [hi]⟩
      · rintro ⟨h, _⟩; exact ⟨by omega, by omega⟩) (by simp) (by simp) (fun i o ho hl => by
        by_cases hi : i < ops.size
        · simp [hi] at hl
        · simp [hi] at hl) hrun hi2
  exact wp_region_any hm (by simpa using this)

end Go.Proofs.YtbbbhalmlboapaaDoor.V
