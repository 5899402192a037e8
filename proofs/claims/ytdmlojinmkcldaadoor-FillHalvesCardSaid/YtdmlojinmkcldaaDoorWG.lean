/-
Regions whose order is drawn: two operations that have nothing to do with one another may change places.
-/
import Derived.Test.YtdmlojinmkcldaaDoorWF
namespace Go.Proofs.YtdmlojinmkcldaaDoor.V
set_option linter.unusedSimpArgs false
set_option linter.unusedVariables false
open Go Go.RowKit

variable {T : Tab} {flip : Nat → Bool} {C : Callees} {ops : List Oper}

def AgreeOn (l : List Tmp) (ρ ρ' : Env) : Prop := ∀ t, t ∈ l → get ρ' t = get ρ t

theorem eval_agree {ρ ρ' : Env} {o : Oper} (h : AgreeOn (o.looksAt ops.toArray) ρ ρ') (x : Operand) (hx : x ∈ o.op.operands.toList) : eval ρ' x = eval ρ x := by
  cases x with
  | tmp t => exact h t (List.mem_append_left _ (List.mem_filterMap.2 ⟨.tmp t, hx, rfl⟩))
  | _ => rfl

theorem wanted_agree {ρ ρ' : Env} {o : Oper} (h : AgreeOn (o.looksAt ops.toArray) ρ ρ') : wantedV ρ' ops o = wantedV ρ ops o := by
  unfold wantedV
  cases hg : o.guard with
  | none => rfl
  | some gw =>
    obtain ⟨j, want⟩ := gw
    simp only []
    cases hj : ops[j]? with
    | none => rfl
    | some og =>
      simp only []
      cases hd : og.dst with
      | none => rfl
      | some t =>
        simp only []
        rw [h t (List.mem_append_right _ (by simp [hg, hj, hd]))]

theorem accs_simple {ρ : Env} {B B' B2 B2' : Hp} {o : Oper} (h : simpleOp flip o = true) : accs flip ρ B B' o = accs flip ρ B2 B2' o := by
  obtain ⟨dst, op, ty, pos, af, gd⟩ := o
  cases op
  case call cl =>
    cases hc : cl.callee with
    | builtin b => simp only [accs, hc]; cases b <;> rfl
    | value f => simp only [simpleOp, hc] at h; cases h
    | invoke r m => simp only [simpleOp, hc] at h; cases h
  all_goals rfl

theorem st_simple {ρ : Env} {B B' : Hp} {o : Oper} (h : Acc.st ∉ accs flip ρ B B' o) : simpleOp flip o = true := by
  cases hs : simpleOp flip o with
  | true => rfl
  | false => exact absurd (by unfold accs; rw [hs]; simp) h

theorem step_any {o : Oper} {s s1 : St} {a : List Acc} (h : stepD T flip C ops o s = some (s1, a)) :
    ∃ e, s1.ρ = put s.ρ o.dst e ∧ Fr s s1 a ∧ ∀ ρ', AgreeOn (o.looksAt ops.toArray) s.ρ ρ' → stepD T flip C ops o { s with ρ := ρ' } = some ({ s1 with ρ := put ρ' o.dst e }, a) := by
  unfold stepD at h
  split at h
  · rename_i hw
    split at h
    · rename_i d st' ho
      injection h with h; injection h with h1 h2; subst h1; subst h2
      have hf := frame_spec ho
      refine ⟨d, rfl, ⟨hf.len, hf.L, hf.B⟩, fun ρ' hρ => ?_⟩
      unfold stepD
      have hc := opV_congr (T := T) (flip := flip) (C := C) s.ρ ρ' s.L s.τ s.B o (eval_agree hρ)
      have hs : opV T flip C o ⟨s.ρ, s.L, s.τ, s.B⟩ = some (d, st') := ho
      rw [hs] at hc
      show (match wantedV ρ' ops o with
        | some true => _
        | some false => _
        | .none => _) = _
      rw [wanted_agree hρ, hw]
      simp only []
      rw [hc]
      simp only [reρ]
      rw [accs_congr (eval_agree hρ)]
    · cases h
  · rename_i hw
    injection h with h; injection h with h1 h2; subst h1; subst h2
    refine ⟨.tuple [], rfl, ⟨Nat.le_refl _, fun _ _ _ => rfl, fun _ => rfl⟩, fun ρ' hρ => ?_⟩
    unfold stepD
    rw [wanted_agree hρ, hw]
  · cases h

theorem step_quiet {o : Oper} {s s1 : St} {a : List Acc} (h : stepD T flip C ops o s = some (s1, a)) (hq : Acc.st ∉ a) :
    ∃ e, s1 = { s with ρ := put s.ρ o.dst e } ∧ ∀ s2 : St, AgreeOn (o.looksAt ops.toArray) s.ρ s2.ρ → Sees s s2 a → stepD T flip C ops o s2 = some ({ s2 with ρ := put s2.ρ o.dst e }, a) := by
  unfold stepD at h
  split at h
  · rename_i hw
    split at h
    · rename_i d st' ho
      injection h with h; injection h with h1 h2; subst h1; subst h2
      have hso := st_simple hq
      obtain ⟨e1, _⟩ := simple_spec (s2 := s) (B' := st'.B) hso ho (fun _ _ => rfl) (Sees.refl _ _)
      subst e1
      refine ⟨d, rfl, fun s2 hρ hs => ?_⟩
      obtain ⟨_, e2⟩ := simple_spec (s2 := s2) (B' := st'.B) hso ho (eval_agree hρ) hs
      unfold stepD
      rw [wanted_agree hρ, hw]
      simp only []
      rw [e2]
      simp only []
      rw [accs_congr (eval_agree hρ), accs_simple (B2 := st'.B) (B2' := st'.B) hso]
    · cases h
  · rename_i hw
    injection h with h; injection h with h1 h2; subst h1; subst h2
    refine ⟨.tuple [], rfl, fun s2 hρ _ => ?_⟩
    unfold stepD
    rw [wanted_agree hρ, hw]
  · cases h

/-- Slots that hold the same, and the same memory. -/
structure Sim (s t : St) : Prop where
  ρ : ∀ k, get t.ρ k = get s.ρ k
  L : t.L = s.L
  τ : t.τ = s.τ
  B : t.B = s.B

theorem Sim.refl (s : St) : Sim s s := ⟨fun _ => rfl, rfl, rfl, rfl⟩
theorem Sim.trans {s t u : St} (h : Sim s t) (h' : Sim t u) : Sim s u := ⟨fun k => (h'.ρ k).trans (h.ρ k), h'.L.trans h.L, h'.τ.trans h.τ, h'.B.trans h.B⟩
theorem Sim.symm {s t : St} (h : Sim s t) : Sim t s := ⟨fun k => (h.ρ k).symm, h.L.symm, h.τ.symm, h.B.symm⟩

theorem get_put (ρ : Env) (dst : Option Tmp) (d : D) (t : Nat) : get (put ρ dst d) t = if dst = some t then d else get ρ t := by
  cases dst with
  | none => simp [put]
  | some u =>
    by_cases h : u = t
    · subst h; rw [get_put_self]; simp
    · rw [get_put_ne _ _ _ _ h]; simp [h]

theorem agree_put {l : List Tmp} {ρ : Env} {dst : Option Tmp} {d : D} (h : ∀ t, dst = some t → t ∉ l) : AgreeOn l ρ (put ρ dst d) := fun t ht => by
  rw [get_put, if_neg (fun e => h t e ht)]

theorem sim_step {o : Oper} {s s1 t : St} {a : List Acc} (h : stepD T flip C ops o s = some (s1, a)) (hs : Sim s t) : ∃ t1, stepD T flip C ops o t = some (t1, a) ∧ Sim s1 t1 := by
  obtain ⟨e, h1, _, h2⟩ := step_any h
  obtain ⟨ρ, L, τ, B⟩ := t
  obtain ⟨hρ, hL, hτ, hB⟩ := hs
  simp only at hρ hL hτ hB
  subst hL; subst hτ; subst hB
  refine ⟨_, h2 ρ (fun k _ => hρ k), ⟨fun k => ?_, rfl, rfl, rfl⟩⟩
  show get (put ρ o.dst e) k = get s1.ρ k
  rw [h1, get_put, get_put, hρ]

theorem clash_false {a b : List Acc} (h : clashL b a = false) {x y : Acc} (hx : x ∈ b) (hy : y ∈ a) : x.clash y = false := by
  unfold clashL at h
  have := (List.any_eq_false.1 h) x hx
  simp only [Bool.not_eq_true] at this
  exact Bool.eq_false_iff.2 (fun e => by
    have := (List.any_eq_false.1 this) y hy
    exact this e)

def inR (n : Nat) : D → Prop
  | .lptr i _ => i < n
  | .lsl i _ _ _ => i < n
  | _ => True

theorem inR.mono {n m : Nat} (h : n ≤ m) {d : D} (hd : inR n d) : inR m d := by
  cases d <;> first | exact Nat.lt_of_lt_of_le hd h | trivial

theorem accP_range {n i : Nat} {d : D} (hd : inR n d) (h : Acc.rdL i ∈ accP d) : i < n := by
  cases d <;> simp [accP] at h
  · subst h; exact hd
  · subst h; exact hd

theorem accW_range {i : Nat} {d : D} (h : Acc.rdL i ∈ accW d) : False := by
  cases d <;> simp [accW] at h

theorem accs_range {ρ : Env} {B B' : Hp} {o : Oper} {n i : Nat} (hr : ∀ x, x ∈ o.op.operands.toList → inR n (eval ρ x)) (h : Acc.rdL i ∈ accs flip ρ B B' o) : i < n := by
  obtain ⟨dst, op, ty, pos, af, gd⟩ := o
  unfold accs at h
  replace h := (List.mem_append.1 h).resolve_left (fun h => by cases hs : simpleOp flip ⟨dst, op, ty, pos, af, gd⟩ <;> rw [hs] at h <;> simp at h)
  · cases op <;> simp only [Op.operands] at hr h <;> try (cases h; done)
    case load t x => exact accP_range (hr x (by simp)) h
    case store t a x => exact (accW_range h).elim
    case convert t u x => exact accP_range (hr x (by simp)) h
    case call cl =>
      cases hc : cl.callee with
      | builtin b =>
        rw [hc] at h
        have hr' : ∀ d, d ∈ cl.args.toList.map (eval ρ) → inR n d := fun d hd => by
          obtain ⟨x, hx, rfl⟩ := List.mem_map.1 hd
          exact hr x (by simp [Call.operands, hc]; simpa using hx)
        cases b <;> simp only at h <;> try (cases h; done)
        · split at h
          · rename_i x y hxy
            exact accP_range (hr' y (by rw [hxy]; simp)) h
          · cases h
        · split at h
          · rename_i x y hxy
            rcases List.mem_append.1 h with h | h
            · exact (accW_range h).elim
            · exact accP_range (hr' y (by rw [hxy]; simp)) h
          · cases h
      | value f =>
        rw [hc] at h
        simp only at h
        rcases List.mem_cons.1 h with h | h
        · split at h <;> cases h
        · obtain ⟨l, hl, hi⟩ := List.mem_flatten.1 h
          obtain ⟨d, hd, rfl⟩ := List.mem_map.1 hl
          obtain ⟨x, hx, rfl⟩ := List.mem_map.1 hd
          exact accP_range (hr x (by simp [Call.operands, hc]; exact .inr (by simpa using hx))) hi
      | invoke q m =>
        rw [hc] at h
        simp only at h
        rcases List.mem_cons.1 h with h | h
        · split at h <;> cases h
        · obtain ⟨l, hl, hi⟩ := List.mem_flatten.1 h
          obtain ⟨d, hd, rfl⟩ := List.mem_map.1 hl
          obtain ⟨x, hx, rfl⟩ := List.mem_map.1 hd
          exact accP_range (hr x (by simp [Call.operands, hc]; exact .inr (by simpa using hx))) hi

theorem step_range {o : Oper} {s s1 : St} {a : List Acc} {n i : Nat} (h : stepD T flip C ops o s = some (s1, a)) (hr : ∀ x, x ∈ o.op.operands.toList → inR n (eval s.ρ x)) (hi : Acc.rdL i ∈ a) : i < n := by
  unfold stepD at h
  split at h
  · split at h
    · injection h with h; injection h with h1 h2; subst h1; subst h2
      exact accs_range hr hi
    · cases h
  · injection h with h; injection h with h1 h2; subst h1; subst h2
    cases hi
  · cases h

theorem swap {x y : Oper} {s s1 s2 : St} {a b : List Acc} (hy : stepD T flip C ops y s = some (s1, b)) (hx : stepD T flip C ops x s1 = some (s2, a)) (hap : x.apart ops.toArray y = true) (hcl : clashL b a = false)
    (hr : ∀ z, z ∈ x.op.operands.toList → inR s.L.length (eval s.ρ z)) : ∃ t1 t2, stepD T flip C ops x s = some (t1, a) ∧ stepD T flip C ops y t1 = some (t2, b) ∧ Sim s2 t2 := by
  obtain ⟨p1, p2, p3⟩ := Oper.apart_spec hap
  obtain ⟨ey, y1, yf, ya⟩ := step_any hy
  obtain ⟨ex, x1, xf, xa⟩ := step_any hx
  have agx : AgreeOn (x.looksAt ops.toArray) s1.ρ s.ρ := fun t ht => by
    rw [y1, get_put, if_neg (fun e => p3 t e ht)]
  have hcomm : ∀ d e k, get (put (put s.ρ y.dst e) x.dst d) k = get (put (put s.ρ x.dst d) y.dst e) k := fun d e k => by
    simp only [get_put]
    by_cases h1 : x.dst = some k
    · rw [if_pos h1, if_neg (p2 k h1), if_pos h1]
    · rw [if_neg h1, if_neg h1]
  by_cases hq : Acc.st ∈ a
  · have hq' : Acc.st ∉ b := fun h => by have := clash_false hcl h hq; simp [Acc.clash] at this
    obtain ⟨e, hs1, hY⟩ := step_quiet hy hq'
    have h1 := xa s.ρ agx
    have hs : ({ s1 with ρ := s.ρ } : St) = s := by rw [hs1]
    rw [hs] at h1
    refine ⟨_, _, h1, hY _ (agree_put p1) ⟨fun i hi hlt => ?_, fun hi => ?_⟩, ⟨fun k => ?_, rfl, rfl, rfl⟩⟩
    · have hlt' : i < s1.L.length := by rw [hs1]; exact hlt
      have := xf.L i hlt' (fun hw => by have := clash_false hcl hi hw; simp [Acc.clash] at this)
      show s2.L[i]? = _
      rw [this, hs1]
    · have := xf.B (fun hw => by have := clash_false hcl hi hw; simp [Acc.clash] at this)
      show s2.B = _
      rw [this, hs1]
    · show get (put (put s.ρ x.dst ex) y.dst e) k = get s2.ρ k
      rw [x1, ← hcomm, hs1]
  · obtain ⟨e, hs2, hX⟩ := step_quiet hx hq
    have hrn : ∀ i, Acc.rdL i ∈ a → i < s.L.length := fun i hi => step_range hx (fun z hz => by
      rw [← eval_agree agx z hz]; exact hr z hz) hi
    refine ⟨_, _, hX s agx ⟨fun i hi _ => ?_, fun hi => ?_⟩, ya _ (agree_put p1), ⟨fun k => ?_, ?_, ?_, ?_⟩⟩
    · exact (yf.L i (hrn i hi) (fun hw => by have := clash_false hcl hw hi; simp [Acc.clash] at this)).symm
    · exact (yf.B (fun hw => by have := clash_false hcl hw hi; simp [Acc.clash] at this)).symm
    · show get (put (put s.ρ x.dst e) y.dst ey) k = get s2.ρ k
      rw [hs2, y1, hcomm]
    · rw [hs2]
    · rw [hs2]
    · rw [hs2]

inductive RunA (T : Tab) (flip : Nat → Bool) (C : Callees) (ops : List Oper) (A : Nat → List Acc) : List Nat → St → St → Prop
  | nil {s s' : St} (h : Sim s s') : RunA T flip C ops A [] s s'
  | cons {i : Nat} {R : List Nat} {o : Oper} {s s1 s' : St} (ho : ops[i]? = some o) (hs : stepD T flip C ops o s = some (s1, A i)) (hr : RunA T flip C ops A R s1 s') : RunA T flip C ops A (i :: R) s s'

theorem RunA.sim {A : Nat → List Acc} {R : List Nat} {s s' : St} (h : RunA T flip C ops A R s s') : ∀ {t : St}, Sim s t → RunA T flip C ops A R t s' := by
  induction h with
  | nil h => intro t ht; exact .nil (ht.symm.trans h)
  | cons ho hs hr ih =>
    intro t ht
    obtain ⟨t1, h1, h2⟩ := sim_step hs ht
    exact .cons ho h1 (ih h2)

/-- What comes later may come first, if it has nothing to do with what stands ahead of it. -/
theorem bubble {A : Nat → List Acc} {i : Nat} {x : Oper} (hx : ops[i]? = some x) : ∀ (pre : List Nat) {post : List Nat} {s s' : St}, RunA T flip C ops A (pre ++ i :: post) s s' →
    (∀ j, j ∈ pre → ∀ y, ops[j]? = some y → x.apart ops.toArray y = true ∧ clashL (A j) (A i) = false) → (∀ z, z ∈ x.op.operands.toList → inR s.L.length (eval s.ρ z)) →
    ∃ s1, stepD T flip C ops x s = some (s1, A i) ∧ RunA T flip C ops A (pre ++ post) s1 s'
  | [], post, s, s', h, _, _ => by
    cases h with
    | cons ho hs hr => rw [hx] at ho; injection ho with ho; subst ho; exact ⟨_, hs, hr⟩
  | j :: pre, post, s, s', h, hind, hr => by
    cases h with
    | @cons _ _ y _ s1 _ ho hs hrun =>
      obtain ⟨hap, hcl⟩ := hind j (by simp) y ho
      obtain ⟨p1, p2, p3⟩ := Oper.apart_spec hap
      obtain ⟨ey, y1, yf, _⟩ := step_any hs
      have hr1 : ∀ z, z ∈ x.op.operands.toList → inR s1.L.length (eval s1.ρ z) := fun z hz => by
        have ag : AgreeOn (x.looksAt ops.toArray) s.ρ s1.ρ := by rw [y1]; exact agree_put p3
        rw [eval_agree ag z hz]; exact (hr z hz).mono yf.len
      obtain ⟨s2, h1, h2⟩ := bubble hx pre hrun (fun k hk => hind k (by simp [hk])) hr1
      obtain ⟨t1, t2, h3, h4, h5⟩ := swap hs h1 hap hcl hr
      exact ⟨t1, h3, .cons ho h4 (h2.sim h5)⟩

end Go.Proofs.YtdmlojinmkcldaaDoor.V
