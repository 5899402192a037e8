/-
Regions whose order is drawn: two operations that have nothing to do with one another may change places.
-/
import Derived.Test.YtploddijjofphaaDoorXF
namespace Go.Proofs.YtploddijjofphaaDoor.V
set_option linter.unusedSimpArgs false
set_option linter.unusedVariables false
open Go Go.RowKit

variable {T : Tab} {flip : Nat → Nat} {C : Callees} {ops : List Oper}

def AgreeOn (l : List Tmp) (ρ ρ' : Env) : Prop := ∀ t, t ∈ l → get ρ' t = get ρ t

theorem eval_agree {ρ ρ' : Env} {o : Oper} (h : AgreeOn (o.looksAt ops.toArray) ρ ρ') (x : Operand) (hx : x ∈ o.op.operands.toList) : eval ρ' x = eval ρ x := by
  cases x with
  | tmp t => exact h t (List.mem_append_left _ (List.mem_filterMap.2 ⟨.tmp t, hx, rfl⟩))
  | _ => rfl

theorem wanted_agree {ρ ρ' : Env} {o : Oper} (h : AgreeOn (o.looksAt ops.toArray) ρ ρ') : wantedV ρ' ops o = wantedV ρ ops o := by
  unfold wantedV
  cases hg : o.guard with
  | none => rfl
  | some gw =>
    obtain ⟨j, want⟩ := gw
    simp only []
    cases hj : ops[j]? with
    | none => rfl
    | some og =>
      simp only []
      cases hd : og.dst with
      | none => rfl
      | some t =>
        simp only []
        rw [h t (List.mem_append_right _ (by simp [hg, hj, hd]))]

theorem accs_simple {ρ : Env} {B B' B2 B2' : Hp} {o : Oper} (h : simpleOp flip o = true) : accs flip ρ B B' o = accs flip ρ B2 B2' o := by
  obtain ⟨dst, op, ty, pos, af, gd⟩ := o
  cases op
  case call cl =>
    cases hc : cl.callee with
    | builtin b => simp only [accs, hc]; cases b <;> rfl
    | value f => simp only [simpleOp, hc] at h; cases h
    | invoke r m => simp only [simpleOp, hc] at h; cases h
  all_goals rfl

theorem st_simple {ρ : Env} {B B' : Hp} {o : Oper} (h : Acc.st ∉ accs flip ρ B B' o) (h2 : Acc.al ∉ accs flip ρ B B' o) : simpleOp flip o = true := by
  cases hs : simpleOp flip o with
  | true => rfl
  | false =>
    exfalso
    unfold accs at h h2
    rw [hs] at h h2
    cases ha : isAl flip o with
    | true => rw [ha] at h2; simp at h2
    | false =>
      rw [ha] at h
      cases he : isExt flip o <;> rw [he] at h <;> simp at h

/-! ### What accesses say of boxes -/
def inR (P : Nat → Prop) : D → Prop
  | .lptr i _ => P i
  | .lsl i _ _ _ => P i
  | _ => True

theorem inR.mono {P P' : Nat → Prop} (h : ∀ i, P i → P' i) {d : D} (hd : inR P d) : inR P' d := by
  cases d <;> first | exact h _ hd | trivial

def boxOf : Acc → Option Nat
  | .rdL i => some i
  | .wrL i => some i
  | _ => .none

theorem accP_range {P : Nat → Prop} {i : Nat} {d : D} {x : Acc} (hd : inR P d) (h : x ∈ accP d) (hx : boxOf x = some i) : P i := by
  cases d <;> simp [accP] at h
  all_goals (subst h; simp [boxOf] at hx; try (subst hx; exact hd))

theorem accW_range {P : Nat → Prop} {i : Nat} {d : D} {x : Acc} (hd : inR P d) (h : x ∈ accW d) (hx : boxOf x = some i) : P i := by
  cases d <;> simp [accW] at h
  all_goals (subst h; simp [boxOf] at hx; try (subst hx; exact hd))

theorem accs_range {P : Nat → Prop} {ρ : Env} {B B' : Hp} {o : Oper} {i : Nat} {x : Acc} (hr : ∀ z, z ∈ o.op.operands.toList → inR P (eval ρ z)) (h : x ∈ accs flip ρ B B' o) (hx : boxOf x = some i) : P i := by
  unfold accs at h
  have h0 : x ∉ (bif simpleOp flip o then [] else bif isAl flip o then [Acc.al] else bif isExt flip o then [Acc.st, Acc.ext] else [Acc.st]) := fun h0 => by
    cases hs : simpleOp flip o <;> cases ha : isAl flip o <;> cases he : isExt flip o <;> rw [hs, ha, he] at h0 <;> simp at h0 <;> first | (subst h0; simp [boxOf] at hx; done) | (rcases h0 with rfl | rfl <;> simp [boxOf] at hx)
  replace h := (List.mem_append.1 h).resolve_left h0
  clear h0
  obtain ⟨dst, op, ty, pos, af, gd⟩ := o
  cases op <;> simp only [Op.operands] at hr h <;> try (cases h; done)
  case load t a => exact accP_range (hr a (by simp)) h hx
  case store t a y => exact accW_range (hr a (by simp)) h hx
  case convert t u a => exact accP_range (hr a (by simp)) h hx
  case alloc e =>
    cases hb : Nat.beq (flipD flip dst) 0 <;> rw [hb] at h <;> simp at h
    subst h; simp [boxOf] at hx
  case box e y =>
    cases hb : (Nat.beq (flipD flip dst) 0 || Nat.beq (flipD flip dst) 1) <;> rw [hb] at h <;> simp at h
    subst h; simp [boxOf] at hx
  case call cl =>
    cases hc : cl.callee with
    | builtin b =>
      rw [hc] at h
      have hr' : ∀ d, d ∈ cl.args.toList.map (eval ρ) → inR P d := fun d hd => by
        obtain ⟨z, hz, rfl⟩ := List.mem_map.1 hd
        exact hr z (by simp [Call.operands, hc]; simpa using hz)
      cases b <;> simp only at h <;> try (cases h; done)
      · split at h
        · rename_i y z hyz
          exact accP_range (hr' z (by rw [hyz]; simp)) h hx
        · cases h
      · split at h
        · rename_i y z hyz
          rcases List.mem_append.1 h with h | h
          · exact accW_range (hr' y (by rw [hyz]; simp)) h hx
          · exact accP_range (hr' z (by rw [hyz]; simp)) h hx
        · cases h
    | value f =>
      rw [hc] at h
      simp only at h
      rcases List.mem_cons.1 h with h | h
      · split at h <;> (subst h; simp [boxOf] at hx)
      · obtain ⟨l, hl, hi⟩ := List.mem_flatten.1 h
        obtain ⟨d, hd, rfl⟩ := List.mem_map.1 hl
        obtain ⟨z, hz, rfl⟩ := List.mem_map.1 hd
        exact accP_range (hr z (by simp [Call.operands, hc]; exact .inr (by simpa using hz))) hi hx
    | invoke q m =>
      rw [hc] at h
      simp only at h
      rcases List.mem_cons.1 h with h | h
      · split at h <;> (subst h; simp [boxOf] at hx)
      · obtain ⟨l, hl, hi⟩ := List.mem_flatten.1 h
        obtain ⟨d, hd, rfl⟩ := List.mem_map.1 hl
        obtain ⟨z, hz, rfl⟩ := List.mem_map.1 hd
        exact accP_range (hr z (by simp [Call.operands, hc]; exact .inr (by simpa using hz))) hi hx

/-! ### Slots -/
theorem get_put (ρ : Env) (dst : Option Tmp) (d : D) (t : Nat) : get (put ρ dst d) t = if dst = some t then d else get ρ t := by
  cases dst with
  | none => simp [put]
  | some u =>
    by_cases h : u = t
    · subst h; rw [get_put_self]; simp
    · rw [get_put_ne _ _ _ _ h]; simp [h]

theorem agree_put {l : List Tmp} {ρ : Env} {dst : Option Tmp} {d : D} (h : ∀ t, dst = some t → t ∉ l) : AgreeOn l ρ (put ρ dst d) := fun t ht => by
  rw [get_put, if_neg (fun e => h t e ht)]

/-- Slots that hold the same, and the same memory. -/
structure Sim (s t : St) : Prop where
  ρ : ∀ k, get t.ρ k = get s.ρ k
  L : t.L = s.L
  τ : t.τ = s.τ
  B : t.B = s.B

theorem Sim.refl (s : St) : Sim s s := ⟨fun _ => rfl, rfl, rfl, rfl⟩
theorem Sim.trans {s t u : St} (h : Sim s t) (h' : Sim t u) : Sim s u := ⟨fun k => (h'.ρ k).trans (h.ρ k), h'.L.trans h.L, h'.τ.trans h.τ, h'.B.trans h.B⟩
theorem Sim.symm {s t : St} (h : Sim s t) : Sim t s := ⟨fun k => (h.ρ k).symm, h.L.symm, h.τ.symm, h.B.symm⟩

theorem clash_false {a b : List Acc} (h : clashL b a = false) {x y : Acc} (hx : x ∈ b) (hy : y ∈ a) : x.clash y = false := by
  unfold clashL at h
  have := (List.any_eq_false.1 h) x hx
  simp only [Bool.not_eq_true] at this
  exact Bool.eq_false_iff.2 (fun e => by
    have := (List.any_eq_false.1 this) y hy
    exact this e)

theorem ins_comm {L : List (Option (List D))} {k q : Nat} (hkq : k ≠ q) (y z : List D) : ins (ins L k y) q z = ins (ins L q z) k y := by
  have hl : ∀ (L : List (Option (List D))) (k : Nat) (y : List D), (ins L k y).length = max L.length (k + 1) := fun L k y => by unfold ins; simp; omega
  apply List.ext_getElem?
  intro i
  have hi : ∀ (L : List (Option (List D))) (k : Nat) (y : List D), (ins L k y)[i]? = if i = k then some (some y) else if i < L.length then L[i]? else if i < k + 1 then some .none else .none := fun L k y => by
    unfold ins
    rw [List.getElem?_set]
    by_cases h : k = i
    · subst h
      rw [if_pos rfl, if_pos rfl, if_pos (by simp; omega)]
    · rw [if_neg h, if_neg (fun e => h e.symm)]
      rcases Nat.lt_or_ge i L.length with h1 | h1
      · rw [List.getElem?_append_left h1, if_pos h1]
      · rw [List.getElem?_append_right h1, if_neg (by omega), List.getElem?_replicate]
        by_cases h2 : i < k + 1
        · rw [if_pos (by omega), if_pos h2]
        · rw [if_neg (by omega), if_neg h2]
  rw [hi, hi]
  simp only [hl, hi]
  by_cases h1 : i = q <;> by_cases h2 : i = k
  · omega
  all_goals (repeat' split) <;> first | rfl | omega | simp_all

theorem chg_ins {s : St} {A : List Acc} {f : List (Option (List D)) → List (Option (List D))} (hf : Chg s A f) {L : List (Option (List D))} {k : Nat} (hL : ∀ i ds, s.L[i]? = some (some ds) → Acc.wrL i ∈ A → dom L i) (hk : ¬ dom L k) (z : List D) : f (ins L k z) = ins (f L) k z := by
  rcases hf with rfl | ⟨i, ds, es, hi, hw, rfl⟩
  · rfl
  · have hd := hL i ds hi hw
    have hik : i ≠ k := fun e => hk (e ▸ hd)
    have hlt := dom_lt hd
    unfold ins
    simp only [List.length_set]
    rw [List.set_comm _ _ (Ne.symm hik), List.set_append_left _ _ hlt]

theorem chg_dom {s : St} {A : List Acc} {f : List (Option (List D)) → List (Option (List D))} (hf : Chg s A f) {L : List (Option (List D))} (hL : ∀ i ds, s.L[i]? = some (some ds) → Acc.wrL i ∈ A → dom L i) {k : Nat} (h : dom (f L) k) : dom L k := by
  rcases hf with rfl | ⟨i, ds, es, hi, hw, rfl⟩
  · exact h
  · obtain ⟨ds', hd⟩ := hL i ds hi hw
    exact dom_set_inv hd h

/-! ### Steps -/
/-- It lays a box of the frame's own, that holds a zero of this type. -/
def alOf (flip : Nat → Nat) (o : Oper) : Option TypeId :=
  match o.op with
  | .alloc e => bif Nat.beq (flipD flip o.dst) 0 then some e else .none
  | _ => .none

theorem alOf_some {o : Oper} {e : TypeId} (h : alOf flip o = some e) : o.op = .alloc e ∧ Nat.beq (flipD flip o.dst) 0 = true ∧ isAl flip o = true := by
  unfold alOf at h
  split at h
  · rename_i e' he
    cases hb : Nat.beq (flipD flip o.dst) 0 with
    | false => rw [hb] at h; cases h
    | true =>
      rw [hb] at h
      simp only [cond_true] at h
      injection h with h; subst h
      refine ⟨he, rfl, ?_⟩
      unfold isAl
      rw [he]; exact hb
  · cases h

theorem alOf_none {o : Oper} (h : alOf flip o = .none) : isAl flip o = false := by
  unfold alOf at h
  unfold isAl
  split at h
  · rename_i e' he
    cases hb : Nat.beq (flipD flip o.dst) 0 with
    | false => simp only [he, hb]
    | true => rw [hb] at h; cases h
  · rename_i hne
    split
    · rename_i e he; exact absurd he (hne e)
    · rfl

open Classical in
/-- A box is laid at a number of one's own choice. -/
noncomputable def stepX (T : Tab) (flip : Nat → Nat) (C : Callees) (ops : List Oper) (k : Nat) (o : Oper) (s : St) : Option (St × List Acc) :=
  match alOf flip o with
  | some e => match wantedV s.ρ ops o with
    | some true => match T e with
      | some ti => if dom s.L k then .none else some ({ s with ρ := put s.ρ o.dst (.lptr k 0), L := ins s.L k ti.zero.cells }, [.al])
      | .none => .none
    | some false => some ({ s with ρ := put s.ρ o.dst (.tuple []) }, [])
    | .none => .none
  | .none => stepD T flip C ops o s

theorem stepX_len {o : Oper} {s : St} {r : St × List Acc} (h : stepD T flip C ops o s = some r) : stepX T flip C ops s.L.length o s = some r := by
  unfold stepX
  split
  · rename_i e he
    unfold stepD at h
    split at h
    · rename_i hw
      rw [hw]
      simp only []
      have ho : opV T flip C o s = match T e with
        | some ti => some (.lptr s.L.length 0, { s with L := s.L ++ [some ti.zero.cells] })
        | .none => .none := by
        obtain ⟨e1, e2, _⟩ := alOf_some he
        obtain ⟨dst, op, ty, pos, af, gd⟩ := o
        simp only at e1 e2
        subst e1
        simp only [opV, e2, cond_true]
        cases T e <;> rfl
      rw [ho] at h
      have ha : ∀ B', accs flip s.ρ s.B B' o = [.al] := fun B' => by
        obtain ⟨e1, e2, e3⟩ := alOf_some he
        obtain ⟨dst, op, ty, pos, af, gd⟩ := o
        simp only at e1 e2
        subst e1
        simp only [accs, simpleOp, e3, e2, cond_true, cond_false, List.append_nil]
      cases ht : T e with
      | none => rw [ht] at h; cases h
      | some ti =>
        rw [ht] at h
        simp only [ha] at h
        dsimp only
        rw [if_neg (fun h => Nat.lt_irrefl _ (dom_lt h)), ins_len]
        exact h
    · rename_i hw
      rw [hw]; exact h
    · cases h
  · exact h

theorem stepX_any {k : Nat} {o : Oper} {s s1 : St} {a : List Acc} (h : stepX T flip C ops k o s = some (s1, a)) :
    ∃ e, s1.ρ = put s.ρ o.dst e ∧ Fr s s1 a ∧ ∀ ρ', AgreeOn (o.looksAt ops.toArray) s.ρ ρ' → stepX T flip C ops k o { s with ρ := ρ' } = some ({ s1 with ρ := put ρ' o.dst e }, a) := by
  unfold stepX at h
  split at h
  · rename_i e he
    split at h
    · rename_i hw
      split at h
      · rename_i ti ht
        split at h
        · cases h
        · rename_i hk
          injection h with h; injection h with h1 h2; subst h1; subst h2
          refine ⟨_, rfl, ⟨fun i ds hi _ => ins_get.2 (.inr ⟨fun e => hk (e ▸ ⟨ds, hi⟩), hi⟩), fun i hi => dom_ins.2 (.inr hi), fun _ => rfl⟩, fun ρ' hρ => ?_⟩
          unfold stepX
          simp only [he, wanted_agree hρ, hw, ht, hk, if_false]
      · cases h
    · rename_i hw
      injection h with h; injection h with h1 h2; subst h1; subst h2
      refine ⟨_, rfl, ⟨fun _ _ h _ => h, fun _ h => h, fun _ => rfl⟩, fun ρ' hρ => ?_⟩
      unfold stepX
      simp only [he, wanted_agree hρ, hw]
    · cases h
  · rename_i hne
    unfold stepD at h
    split at h
    · rename_i hw
      split at h
      · rename_i d st' ho
        injection h with h; injection h with h1 h2; subst h1; subst h2
        have hf := frame_spec ho
        refine ⟨d, rfl, ⟨hf.L, hf.dom, hf.B⟩, fun ρ' hρ => ?_⟩
        have hc := opV_congr (T := T) (flip := flip) (C := C) s.ρ ρ' s.L s.τ s.B o (eval_agree hρ)
        have hs : opV T flip C o ⟨s.ρ, s.L, s.τ, s.B⟩ = some (d, st') := ho
        rw [hs] at hc
        unfold stepX
        split
        · rename_i e he; rw [hne] at he; cases he
        · unfold stepD
          show (match wantedV ρ' ops o with
            | some true => _
            | some false => _
            | .none => _) = _
          rw [wanted_agree hρ, hw]
          simp only []
          rw [hc]
          simp only [reρ]
          rw [accs_congr (eval_agree hρ)]
      · cases h
    · rename_i hw
      injection h with h; injection h with h1 h2; subst h1; subst h2
      refine ⟨.tuple [], rfl, ⟨fun _ _ h _ => h, fun _ h => h, fun _ => rfl⟩, fun ρ' hρ => ?_⟩
      unfold stepX
      split
      · rename_i e he; rw [hne] at he; cases he
      · unfold stepD
        rw [wanted_agree hρ, hw]
    · cases h

/-- Three kinds of steps: what changes nothing; a box more; and others. -/
theorem stepX_kind {k : Nat} {o : Oper} {s s1 : St} {a : List Acc} (h : stepX T flip C ops k o s = some (s1, a)) :
    (Acc.st ∉ a ∧ Acc.al ∉ a ∧ ∃ e, s1 = { s with ρ := put s.ρ o.dst e } ∧ ∀ s2 : St, AgreeOn (o.looksAt ops.toArray) s.ρ s2.ρ → Sees s s2 a → stepX T flip C ops k o s2 = some ({ s2 with ρ := put s2.ρ o.dst e }, a)) ∨
    (Acc.al ∈ a ∧ Acc.st ∉ a ∧ ∃ e z, ¬ dom s.L k ∧ s1 = { s with ρ := put s.ρ o.dst e, L := ins s.L k z } ∧ ∀ s2 : St, AgreeOn (o.looksAt ops.toArray) s.ρ s2.ρ → ¬ dom s2.L k → stepX T flip C ops k o s2 = some ({ s2 with ρ := put s2.ρ o.dst e, L := ins s2.L k z }, a)) ∨
    (Acc.st ∈ a ∧ (Acc.ext ∉ a → ∃ e f, Chg s a f ∧ s1.L = f s.L ∧ s1.ρ = put s.ρ o.dst e ∧ ∀ s2 : St, AgreeOn (o.looksAt ops.toArray) s.ρ s2.ρ → s2.τ = s.τ → s2.B = s.B → Sees s s2 a →
      (∀ i ds, Acc.wrL i ∈ a → s.L[i]? = some (some ds) → s2.L[i]? = some (some ds)) → stepX T flip C ops k o s2 = some (⟨put s2.ρ o.dst e, f s2.L, s1.τ, s1.B⟩, a))) := by
  unfold stepX at h
  split at h
  · rename_i e he
    split at h
    · rename_i hw
      split at h
      · rename_i ti ht
        split at h
        · cases h
        · rename_i hk
          injection h with h; injection h with h1 h2; subst h1; subst h2
          refine .inr (.inl ⟨by simp, by simp, .lptr k 0, ti.zero.cells, hk, rfl, fun s2 hρ hk2 => ?_⟩)
          unfold stepX
          simp only [he, wanted_agree hρ, hw, ht, hk2, if_false]
      · cases h
    · rename_i hw
      injection h with h; injection h with h1 h2; subst h1; subst h2
      refine .inl ⟨by simp, by simp, .tuple [], rfl, fun s2 hρ _ => ?_⟩
      unfold stepX
      simp only [he, wanted_agree hρ, hw]
    · cases h
  · rename_i hne
    have hX : ∀ s2, stepX T flip C ops k o s2 = stepD T flip C ops o s2 := fun s2 => by
      unfold stepX
      split
      · rename_i e he; rw [hne] at he; cases he
      · rfl
    have hal : isAl flip o = false := alOf_none hne
    unfold stepD at h
    split at h
    · rename_i hw
      split at h
      · rename_i d st' ho
        injection h with h; injection h with h1 h2; subst h1; subst h2
        cases hso : simpleOp flip o with
        | true =>
          obtain ⟨e1, _⟩ := simple_spec (s2 := s) (B' := st'.B) hso ho (fun _ _ => rfl) (Sees.refl _ _)
          have e1 := e1.symm
          subst e1
          have hno : ∀ x, x = Acc.st ∨ x = Acc.al → x ∉ accs flip s.ρ s.B s.B o := fun x hx hm => by
            unfold accs at hm
            rw [hso] at hm
            simp only [cond_true, List.nil_append] at hm
            have hb : ∀ d, x ∉ accP d ∧ x ∉ accW d := fun d => by
              rcases hx with rfl | rfl <;> cases d <;> simp [accP, accW]
            have hbif : ∀ b : Bool, x ∉ (bif b then [] else [Acc.wrB]) := fun b => by
              rcases hx with rfl | rfl <;> cases b <;> simp
            split at hm
            · exact (hb _).1 hm
            · exact (hb _).2 hm
            · exact hbif _ hm
            · exact hbif _ hm
            · exact (hb _).1 hm
            · split at hm
              · split at hm
                · exact (hb _).1 hm
                · cases hm
              · split at hm
                · rcases List.mem_append.1 hm with hm | hm
                  · exact (hb _).2 hm
                  · exact (hb _).1 hm
                · cases hm
              · cases hm
              · rcases List.mem_cons.1 hm with hm | hm
                · rcases hx with rfl | rfl <;> split at hm <;> cases hm
                · obtain ⟨l, hl, hi⟩ := List.mem_flatten.1 hm
                  obtain ⟨d, _, rfl⟩ := List.mem_map.1 hl
                  exact (hb _).1 hi
            · cases hm
          refine .inl ⟨hno _ (.inl rfl), hno _ (.inr rfl), d, rfl, fun s2 hρ hs => ?_⟩
          obtain ⟨_, e2⟩ := simple_spec (s2 := s2) (B' := s.B) hso ho (eval_agree hρ) hs
          rw [hX]
          unfold stepD
          rw [wanted_agree hρ, hw]
          simp only []
          rw [e2]
          simp only []
          rw [accs_congr (eval_agree hρ), accs_simple (B2 := s.B) (B2' := s.B) hso]
        | false =>
          refine .inr (.inr ⟨?_, fun hext => ?_⟩)
          · unfold accs
            rw [hso, hal]
            cases isExt flip o <;> simp
          · have hex : isExt flip o = false := by
              cases he : isExt flip o with
              | false => rfl
              | true => exact absurd (by unfold accs; rw [hso, hal, he]; simp) hext
            obtain ⟨f, g1, g2, g3⟩ := act_spec (B' := st'.B) hso hal hex ho
            refine ⟨d, f, g1, g2, rfl, fun s2 hρ hτ hB hs hwr => ?_⟩
            rw [hX]
            unfold stepD
            rw [wanted_agree hρ, hw]
            simp only []
            rw [g3 s2 (eval_agree hρ) hτ hB hs hwr]
            simp only []
            rw [accs_congr (eval_agree hρ), hB]
      · cases h
    · rename_i hw
      injection h with h; injection h with h1 h2; subst h1; subst h2
      refine .inl ⟨by simp, by simp, .tuple [], rfl, fun s2 hρ _ => ?_⟩
      rw [hX]
      unfold stepD
      rw [wanted_agree hρ, hw]
    · cases h

theorem stepX_range {k : Nat} {o : Oper} {s s1 : St} {a : List Acc} {P : Nat → Prop} {i : Nat} {x : Acc} (h : stepX T flip C ops k o s = some (s1, a)) (hr : ∀ z, z ∈ o.op.operands.toList → inR P (eval s.ρ z)) (hx : x ∈ a) (hi : boxOf x = some i) : P i := by
  unfold stepX at h
  split at h
  · split at h
    · split at h
      · split at h
        · cases h
        · injection h with h; injection h with h1 h2; subst h2
          simp at hx; subst hx; cases hi
      · cases h
    · injection h with h; injection h with h1 h2; subst h2
      cases hx
    · cases h
  · unfold stepD at h
    split at h
    · split at h
      · injection h with h; injection h with h1 h2; subst h2
        exact accs_range hr hx hi
      · cases h
    · injection h with h; injection h with h1 h2; subst h2
      cases hx
    · cases h

theorem alloc_accs {k : Nat} {o : Oper} {s s1 : St} {a : List Acc} (h : stepX T flip C ops k o s = some (s1, a)) (ha : Acc.al ∈ a) : (∃ e, o.op = .alloc e) ∧ a = [.al] := by
  unfold stepX at h
  split at h
  · rename_i e he
    refine ⟨⟨e, (alOf_some he).1⟩, ?_⟩
    split at h
    · split at h
      · split at h
        · cases h
        · injection h with h; injection h with h1 h2; exact h2.symm
      · cases h
    · injection h with h; injection h with h1 h2; subst h2
      cases ha
    · cases h
  · rename_i hne
    exfalso
    have hX := stepX_kind (T := T) (flip := flip) (C := C) (ops := ops) (k := k) (o := o) (s := s) (s1 := s1) (a := a) (by
      unfold stepX
      split
      · rename_i e he; rw [hne] at he; cases he
      · exact h)
    have hal : isAl flip o = false := alOf_none hne
    unfold stepD at h
    split at h
    · split at h
      · injection h with h; injection h with h1 h2; subst h2
        unfold accs at ha
        rcases List.mem_append.1 ha with ha | ha
        · cases hs : simpleOp flip o <;> cases he : isExt flip o <;> rw [hs, hal, he] at ha <;> simp at ha
        · have hb : ∀ d, Acc.al ∉ accP d ∧ Acc.al ∉ accW d := fun d => by cases d <;> simp [accP, accW]
          have hbif : ∀ b : Bool, Acc.al ∉ (bif b then [] else [Acc.wrB]) := fun b => by cases b <;> simp
          split at ha
          · exact (hb _).1 ha
          · exact (hb _).2 ha
          · exact hbif _ ha
          · exact hbif _ ha
          · exact (hb _).1 ha
          · split at ha
            · split at ha
              · exact (hb _).1 ha
              · cases ha
            · split at ha
              · rcases List.mem_append.1 ha with ha | ha
                · exact (hb _).2 ha
                · exact (hb _).1 ha
              · cases ha
            · cases ha
            · rcases List.mem_cons.1 ha with ha | ha
              · split at ha <;> cases ha
              · obtain ⟨l, hl, hi⟩ := List.mem_flatten.1 ha
                obtain ⟨d, _, rfl⟩ := List.mem_map.1 hl
                exact (hb _).1 hi
          · cases ha
      · cases h
    · injection h with h; injection h with h1 h2; subst h2
      cases ha
    · cases h

theorem sim_step {k : Nat} {o : Oper} {s s1 t : St} {a : List Acc} (h : stepX T flip C ops k o s = some (s1, a)) (hs : Sim s t) : ∃ t1, stepX T flip C ops k o t = some (t1, a) ∧ Sim s1 t1 := by
  obtain ⟨e, h1, _, h2⟩ := stepX_any h
  obtain ⟨ρ, L, τ, B⟩ := t
  obtain ⟨hρ, hL, hτ, hB⟩ := hs
  simp only at hρ hL hτ hB
  subst hL; subst hτ; subst hB
  refine ⟨_, h2 ρ (fun k _ => hρ k), ⟨fun k => ?_, rfl, rfl, rfl⟩⟩
  show get (put ρ o.dst e) k = get s1.ρ k
  rw [h1, get_put, get_put, hρ]

theorem swap {kx ky : Nat} {x y : Oper} {s s1 s2 : St} {a b : List Acc} (hy : stepX T flip C ops ky y s = some (s1, b)) (hx : stepX T flip C ops kx x s1 = some (s2, a)) (hap : x.apart ops.toArray y = true) (hcl : clashL b a = false)
    (hr : ∀ z, z ∈ x.op.operands.toList → inR (dom s.L) (eval s.ρ z)) : ∃ t1 t2, stepX T flip C ops kx x s = some (t1, a) ∧ stepX T flip C ops ky y t1 = some (t2, b) ∧ Sim s2 t2 := by
  obtain ⟨p1, p2, p3⟩ := Oper.apart_spec hap
  obtain ⟨ey, y1, yf, ya⟩ := stepX_any hy
  obtain ⟨ex, x1, xf, xa⟩ := stepX_any hx
  have agx : AgreeOn (x.looksAt ops.toArray) s1.ρ s.ρ := fun t ht => by
    rw [y1, get_put, if_neg (fun e => p3 t e ht)]
  have hcomm : ∀ d e k, get (put (put s.ρ y.dst e) x.dst d) k = get (put (put s.ρ x.dst d) y.dst e) k := fun d e k => by
    simp only [get_put]
    by_cases h1 : x.dst = some k
    · rw [if_pos h1, if_neg (p2 k h1), if_pos h1]
    · rw [if_neg h1, if_neg h1]
  have hrn : ∀ i z, z ∈ a → boxOf z = some i → dom s.L i := fun i z hz hi => stepX_range hx (fun q hq => by
    rw [← eval_agree agx q hq]; exact hr q hq) hz hi
  have back : ∀ i ds, (Acc.rdL i ∈ a ∨ Acc.wrL i ∈ a) → Acc.wrL i ∉ b → s1.L[i]? = some (some ds) → s.L[i]? = some (some ds) := fun i ds hi hn hl => by
    obtain ⟨es, he⟩ : dom s.L i := by
      rcases hi with hi | hi
      · exact hrn i _ hi rfl
      · exact hrn i _ hi rfl
    have := yf.L i es he hn
    rw [hl] at this
    rw [he]; exact this.symm
  rcases stepX_kind hx with ⟨_, _, e, hs2, hX⟩ | ⟨xal, xst, e, z, hkx, hs2, hX⟩ | ⟨xst, hX⟩
  · -- x changes nothing
    refine ⟨_, _, hX s agx ⟨fun i ds hi hl => back i ds (.inl hi) (fun hw => by have := clash_false hcl hw hi; simp [Acc.clash] at this) hl, fun hi => ?_⟩, ya _ (agree_put p1), ⟨fun k => ?_, ?_, ?_, ?_⟩⟩
    · exact (yf.B (fun hw => by have := clash_false hcl hw hi; simp [Acc.clash] at this)).symm
    · show get (put (put s.ρ x.dst e) y.dst ey) k = get s2.ρ k
      rw [hs2, y1, hcomm]
    · rw [hs2]
    · rw [hs2]
    · rw [hs2]
  all_goals
    rcases stepX_kind hy with ⟨_, _, f, hs1, hY⟩ | ⟨yal, yst, f, u, hky, hs1, hY⟩ | ⟨yst, hY⟩
  · -- x lays a box, y changes nothing
    have h1 := xa s.ρ agx
    have hs : ({ s1 with ρ := s.ρ } : St) = s := by rw [hs1]
    rw [hs] at h1
    refine ⟨_, _, h1, hY _ (agree_put p1) ⟨fun i ds hi hl => xf.L i ds (by rw [hs1]; exact hl) (fun hw => by have := clash_false hcl hi hw; simp [Acc.clash] at this), fun hi => ?_⟩, ⟨fun k => ?_, rfl, rfl, rfl⟩⟩
    · have := xf.B (fun hw => by have := clash_false hcl hi hw; simp [Acc.clash] at this)
      show s2.B = _
      rw [this, hs1]
    · show get (put (put s.ρ x.dst ex) y.dst f) k = get s2.ρ k
      rw [x1, ← hcomm, hs1]
  · -- both lay a box
    have hne : kx ≠ ky := fun e => hkx (by rw [hs1, e]; exact dom_ins.2 (.inl rfl))
    have hkx' : ¬ dom s.L kx := fun h => hkx (by rw [hs1]; exact dom_ins.2 (.inr h))
    refine ⟨_, _, hX s agx hkx', hY _ (agree_put p1) (fun h => (dom_ins.1 h).elim (fun e => hne e.symm) hky), ⟨fun k => ?_, ?_, ?_, ?_⟩⟩
    · show get (put (put s.ρ x.dst e) y.dst f) k = get s2.ρ k
      rw [hs2]
      show _ = get (put s1.ρ x.dst e) k
      rw [hs1, hcomm]
    · rw [hs2, hs1]; exact ins_comm hne _ _
    · rw [hs2, hs1]
    · rw [hs2, hs1]
  · -- x lays a box, y is another one
    have hext : Acc.ext ∉ b := fun h => by have := clash_false hcl h xal; simp [Acc.clash] at this
    obtain ⟨f, F, hch, hL, hρ, hY⟩ := hY hext
    have hkx' : ¬ dom s.L kx := fun h => hkx (yf.dom kx h)
    have hins : ∀ i ds, s.L[i]? = some (some ds) → (ins s.L kx z)[i]? = some (some ds) := fun i ds h => ins_get.2 (.inr ⟨fun e => hkx' (e ▸ ⟨ds, h⟩), h⟩)
    refine ⟨_, _, hX s agx hkx', hY _ (agree_put p1) rfl rfl ⟨fun i ds _ h => hins i ds h, fun _ => rfl⟩ (fun i ds _ h => hins i ds h), ⟨fun k => ?_, ?_, ?_, ?_⟩⟩
    · show get (put (put s.ρ x.dst e) y.dst f) k = get s2.ρ k
      rw [hs2]
      show _ = get (put s1.ρ x.dst e) k
      rw [hρ, hcomm]
    · rw [hs2]
      show F (ins s.L kx z) = ins s1.L kx z
      rw [hL]
      exact chg_ins hch (fun i ds h _ => ⟨ds, h⟩) hkx' z
    · rw [hs2]
    · rw [hs2]
  · -- y changes nothing
    have h1 := xa s.ρ agx
    have hs : ({ s1 with ρ := s.ρ } : St) = s := by rw [hs1]
    rw [hs] at h1
    refine ⟨_, _, h1, hY _ (agree_put p1) ⟨fun i ds hi hl => xf.L i ds (by rw [hs1]; exact hl) (fun hw => by have := clash_false hcl hi hw; simp [Acc.clash] at this), fun hi => ?_⟩, ⟨fun k => ?_, rfl, rfl, rfl⟩⟩
    · have := xf.B (fun hw => by have := clash_false hcl hi hw; simp [Acc.clash] at this)
      show s2.B = _
      rw [this, hs1]
    · show get (put (put s.ρ x.dst ex) y.dst f) k = get s2.ρ k
      rw [x1, ← hcomm, hs1]
  · -- y lays a box
    have hext : Acc.ext ∉ a := fun h => by have := clash_false hcl yal h; simp [Acc.clash] at this
    obtain ⟨e, F, hch, hL, hρ, hX⟩ := hX hext
    have hwb : ∀ i, Acc.wrL i ∉ b := fun i h => by
      have h2 := stepX_kind hy
      obtain ⟨o1, o2⟩ := alloc_accs hy yal
      rw [o2] at h; simp at h
    have hτ1 : s1.τ = s.τ := by rw [hs1]
    have hB1 : s1.B = s.B := by rw [hs1]
    have hlive : ∀ i ds, s1.L[i]? = some (some ds) → Acc.wrL i ∈ a → dom s.L i := fun i ds h hw => ⟨ds, back i ds (.inr hw) (hwb i) h⟩
    have h1 := hX s agx hτ1.symm hB1.symm ⟨fun i ds hi hl => back i ds (.inl hi) (hwb i) hl, fun _ => hB1.symm⟩ (fun i ds hi hl => back i ds (.inr hi) (hwb i) hl)
    have hk : ¬ dom (F s.L) ky := fun h => hky (chg_dom hch hlive h)
    refine ⟨_, _, h1, hY _ (agree_put p1) hk, ⟨fun k => ?_, ?_, rfl, rfl⟩⟩
    · show get (put (put s.ρ x.dst e) y.dst f) k = get s2.ρ k
      rw [hρ, hs1, hcomm]
    · show ins (F s.L) ky u = s2.L
      rw [hL, hs1]
      exact (chg_ins hch hlive hky u).symm
  · have := clash_false hcl yst xst
    simp [Acc.clash] at this

inductive RunA (T : Tab) (flip : Nat → Nat) (C : Callees) (ops : List Oper) (A : Nat → List Acc) : List Nat → St → St → Prop
  | nil {s s' : St} (h : Sim s s') : RunA T flip C ops A [] s s'
  | cons {i : Nat} {R : List Nat} {o : Oper} {s s1 s' : St} (k : Nat) (ho : ops[i]? = some o) (hs : stepX T flip C ops k o s = some (s1, A i)) (hr : RunA T flip C ops A R s1 s') : RunA T flip C ops A (i :: R) s s'

theorem RunA.sim {A : Nat → List Acc} {R : List Nat} {s s' : St} (h : RunA T flip C ops A R s s') : ∀ {t : St}, Sim s t → RunA T flip C ops A R t s' := by
  induction h with
  | nil h => intro t ht; exact .nil (ht.symm.trans h)
  | cons k ho hs hr ih =>
    intro t ht
    obtain ⟨t1, h1, h2⟩ := sim_step hs ht
    exact .cons k ho h1 (ih h2)

/-- What comes later may come first, if it has nothing to do with what stands ahead of it. -/
theorem bubble {A : Nat → List Acc} {i : Nat} {x : Oper} (hx : ops[i]? = some x) : ∀ (pre : List Nat) {post : List Nat} {s s' : St}, RunA T flip C ops A (pre ++ i :: post) s s' →
    (∀ j, j ∈ pre → ∀ y, ops[j]? = some y → x.apart ops.toArray y = true ∧ clashL (A j) (A i) = false) → (∀ z, z ∈ x.op.operands.toList → inR (dom s.L) (eval s.ρ z)) →
    ∃ k s1, stepX T flip C ops k x s = some (s1, A i) ∧ RunA T flip C ops A (pre ++ post) s1 s'
  | [], post, s, s', h, _, _ => by
    cases h with
    | cons k ho hs hr => rw [hx] at ho; injection ho with ho; subst ho; exact ⟨k, _, hs, hr⟩
  | j :: pre, post, s, s', h, hind, hr => by
    cases h with
    | @cons _ _ y _ s1 _ ky ho hs hrun =>
      obtain ⟨hap, hcl⟩ := hind j (by simp) y ho
      obtain ⟨p1, p2, p3⟩ := Oper.apart_spec hap
      obtain ⟨ey, y1, yf, _⟩ := stepX_any hs
      have hr1 : ∀ z, z ∈ x.op.operands.toList → inR (dom s1.L) (eval s1.ρ z) := fun z hz => by
        have ag : AgreeOn (x.looksAt ops.toArray) s.ρ s1.ρ := by rw [y1]; exact agree_put p3
        rw [eval_agree ag z hz]; exact (hr z hz).mono yf.dom
      obtain ⟨kx, s2, h1, h2⟩ := bubble hx pre hrun (fun k hk => hind k (by simp [hk])) hr1
      obtain ⟨t1, t2, h3, h4, h5⟩ := swap hs h1 hap hcl hr
      exact ⟨kx, t1, h3, .cons ky ho h4 (h2.sim h5)⟩

end Go.Proofs.YtploddijjofphaaDoor.V
