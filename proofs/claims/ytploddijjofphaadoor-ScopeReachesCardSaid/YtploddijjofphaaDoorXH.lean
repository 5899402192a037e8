/-
Regions whose order is drawn: whatever order is drawn, it is as in the order in which they stand.
-/
import Derived.Test.YtploddijjofphaaDoorXG
namespace Go.Proofs.YtploddijjofphaaDoor.V
set_option linter.unusedSimpArgs false
set_option linter.unusedVariables false
open Go Go.RowKit

variable {T : Tab} {flip : Nat → Nat} {C : Callees} {c : Cx} {g : Gh} {w : World}

theorem Inv.sim {nt : Nat} {s t : St} {a : Act} (h : Inv c nt s a g w) (hs : Sim s t) : Inv c nt t a g w := by
  obtain ⟨ρ, L, τ, B⟩ := t
  obtain ⟨hρ, hL, hτ, hB⟩ := hs
  simp only at hρ hL hτ hB
  subst hL; subst hτ; subst hB
  exact ⟨h.fs, fun t => by have := h.env t; rw [hρ t]; exact this, h.size, h.defers⟩

theorem RepF.range {nL : Nat → Prop} {nT : Nat} {d : D} {v : Value} (h : RepF c g nL nT w d v) : inR nL d := by
  cases h with
  | undef => trivial
  | clean d v h => cases h <;> trivial
  | lptr i off hi => exact hi
  | lsl i off len sz cap hi hc => exact hi
  | _ => trivial

/-- Of two operations, of which the first one doesn't come ahead of the second one by its place alone. -/
def Facts (ops : List Oper) (A : Nat → List Acc) : Prop :=
  (∀ i j x y, j < i → ops[i]? = some x → ops[j]? = some y → ((ancM ops).getD i 0).testBit j = true ∨ (x.apart ops.toArray y = true ∧ clashL (A j) (A i) = false)) ∧
  ∀ i o e, ops[i]? = some o → e ∈ o.after.toList → Region.binds .any e = true → e.on < i

theorem runD_length {ops : List Oper} : ∀ {rest : List Oper} {s s' : St} {l : List (List Acc)}, runD T flip C ops rest s = some (s', l) → l.length = rest.length
  | [], s, s', l, h => by simp only [runD] at h; injection h with h; injection h with h1 h2; subst h2; rfl
  | o :: rest, s, s', l, h => by
    simp only [runD] at h
    split at h <;> try cases h
    split at h <;> try cases h
    rename_i hr
    simp [runD_length hr]

theorem runA_of {ops : List Oper} {A : Nat → List Acc} : ∀ {rest : List Oper} {k : Nat} {s s' : St} {l : List (List Acc)}, runD T flip C ops rest s = some (s', l) →
    (∀ m o, rest[m]? = some o → ops[k + m]? = some o) → (∀ m (hm : m < l.length), A (k + m) = l[m]) → RunA T flip C ops A (List.range' k rest.length) s s'
  | [], k, s, s', l, h, _, _ => by
    simp only [runD] at h; injection h with h; injection h with h1 h2; subst h1
    exact .nil (Sim.refl _)
  | o :: rest, k, s, s', l, h, ho, hA => by
    simp only [runD] at h
    split at h <;> try cases h
    rename_i s1 a hs
    split at h <;> try cases h
    rename_i s2 l2 hr
    simp only [List.length_cons, List.range'_succ]
    refine .cons (o := o) (s1 := s1) s.L.length (by simpa using ho 0 o rfl) (stepX_len ?_) (runA_of hr (fun m o' hm => ?_) (fun m hm => ?_))
    · have := hA 0 (by simp)
      simp at this
      rw [this]; exact hs
    · have := ho (m + 1) o' (by simpa using hm)
      rw [show k + 1 + m = k + (m + 1) by omega]; exact this
    · have := hA (m + 1) (by simpa using hm)
      rw [show k + 1 + m = k + (m + 1) by omega]; simpa using this

theorem runD_of {ops : List Oper} : ∀ {rest : List Oper} {s s' : St}, opsV T flip C ops rest s = some s' → ∃ l, runD T flip C ops rest s = some (s', l)
  | [], s, s', h => by simp only [opsV] at h; injection h with h; subst h; exact ⟨[], rfl⟩
  | o :: rest, s, s', h => by
    simp only [opsV] at h
    split at h
    · rename_i hw
      split at h
      · rename_i d st1 ho
        obtain ⟨l, hl⟩ := runD_of h
        exact ⟨accs flip s.ρ s.B st1.B o :: l, by simp only [runD, stepD, hw, ho, hl]⟩
      · cases h
    · rename_i hw
      obtain ⟨l, hl⟩ := runD_of h
      exact ⟨[] :: l, by simp only [runD, stepD, hw, hl]⟩
    · cases h

theorem accP_of {d : D} {x : Acc} (h : x ∈ accP d) : (∃ i, x = .rdL i) ∨ x = .rdB := by
  cases d <;> simp [accP] at h <;> first | exact .inl ⟨_, h⟩ | exact .inr h

theorem accW_of {d : D} {x : Acc} (h : x ∈ accW d) : (∃ i, x = .wrL i) ∨ x = .wrB := by
  cases d <;> simp [accW] at h <;> first | exact .inl ⟨_, h⟩ | exact .inr h

/-- What an access says of its operation's text. -/
def AccOk (flip : Nat → Nat) (o : Oper) : Acc → Prop
  | .st => simpleOp flip o = false ∧ isAl flip o = false
  | .al => simpleOp flip o = false ∧ isAl flip o = true
  | .ext => isExt flip o = true ∧ simpleOp flip o = false
  | .rdL _ | .rdB => isR o = true
  | .wrL _ | .wrB => isW flip o = true

theorem accP_ok {o : Oper} (ho : isR o = true) {d : D} {x : Acc} (h : x ∈ accP d) : AccOk flip o x := by
  rcases accP_of h with ⟨i, rfl⟩ | rfl <;> exact ho
theorem accW_ok {o : Oper} (ho : isW flip o = true) {d : D} {x : Acc} (h : x ∈ accW d) : AccOk flip o x := by
  rcases accW_of h with ⟨i, rfl⟩ | rfl <;> exact ho

theorem accs_ok {ρ : Env} {B : Hp} {o : Oper} {x : Acc} (h : x ∈ accs flip ρ B B o) : AccOk flip o x := by
  have h0 := h
  unfold accs at h
  by_cases hst : x ∈ (bif simpleOp flip o then [] else bif isAl flip o then [Acc.al] else bif isExt flip o then [Acc.st, Acc.ext] else [Acc.st])
  · cases hs : simpleOp flip o <;> cases ha : isAl flip o <;> cases he : isExt flip o <;> rw [hs, ha, he] at hst <;> simp at hst <;> first | (subst hst; exact ⟨hs, ha⟩) | (rcases hst with rfl | rfl; exact ⟨hs, ha⟩; exact ⟨he, hs⟩)
  · replace h := (List.mem_append.1 h).resolve_left hst
    clear h0 hst
    obtain ⟨dst, op, ty, pos, af, gd⟩ := o
    cases op <;> simp only at h <;> try (cases h; done)
    case load t a => exact accP_ok rfl h
    case store t a y => exact accW_ok rfl h
    case convert t u y => exact accP_ok rfl h
    case alloc e =>
      cases hb : Nat.beq (flipD flip dst) 0 <;> rw [hb] at h <;> simp at h
      subst h
      show isW flip _ = true
      simp only [isW, hb, Bool.not_false]
    case box e y =>
      cases hb : Nat.beq (flipD flip dst) 0 <;> cases hb1 : Nat.beq (flipD flip dst) 1 <;> rw [hb, hb1] at h <;> simp at h
      subst h
      show isW flip _ = true
      simp only [isW, hb, hb1, Bool.not_false, Bool.and_self]
    case call cl =>
      cases hc : cl.callee with
      | builtin b =>
        rw [hc] at h
        cases b <;> simp only at h <;> try (cases h; done)
        · split at h
          · exact accP_ok (by simp [isR, hc]) h
          · cases h
        · split at h
          · rcases List.mem_append.1 h with h | h
            · exact accW_ok (by simp [isW, hc]) h
            · exact accP_ok (by simp [isR, hc]) h
          · cases h
      | value f =>
        rw [hc] at h
        simp only [if_true] at h
        rcases List.mem_cons.1 h with h | h
        · subst h; show isR _ = true; simp [isR, hc]
        · obtain ⟨l, hl, hi⟩ := List.mem_flatten.1 h
          obtain ⟨d, hd, rfl⟩ := List.mem_map.1 hl
          exact accP_ok (by simp [isR, hc]) hi
      | invoke q m =>
        rw [hc] at h
        simp only [if_true] at h
        rcases List.mem_cons.1 h with h | h
        · subst h; show isR _ = true; simp [isR, hc]
        · obtain ⟨l, hl, hi⟩ := List.mem_flatten.1 h
          obtain ⟨d, hd, rfl⟩ := List.mem_map.1 hl
          exact accP_ok (by simp [isR, hc]) hi

theorem accs_calls {ρ : Env} {B B' : Hp} {o : Oper} (h : ∀ c, o.op = .call c → ∀ f, c.callee = .value f → B' = B) (hi : ∀ c, o.op = .call c → ∀ r m, c.callee = .invoke r m → B' = B) : accs flip ρ B B' o = accs flip ρ B B o := by
  obtain ⟨dst, op, ty, pos, af, gd⟩ := o
  cases op
  case call cl =>
    cases hc : cl.callee with
    | builtin b => simp only [accs, hc]; cases b <;> rfl
    | value f => rw [h cl rfl f hc]
    | invoke r m => rw [hi cl rfl r m hc]
  all_goals rfl

theorem keepB_inv {f : FuncId} {args : List D} {B B' : Hp} {r : D} (h : keepB C f args B = some (r, B')) : B' = B ∧ C f args B = some (r, B') := by
  unfold keepB at h
  split at h
  · rename_i r' B2 hc
    split at h
    · rename_i hb
      injection h with h; injection h with h1 h2; subst h1; subst h2
      exact ⟨hb, hc⟩
    · cases h
  · cases h

theorem keepB_ok (hC : CallOK c C) : CallOK c (keepB C) := fun f args B r B' h => hC f args B r B' (keepB_inv h).2

theorem callOp_keeps {s s' : St} {fl : Nat} {f d : D} {args : List D} (h : callOpV (keepB C) fl s f args = some (d, s')) : s'.B = s.B := by
  unfold callOpV at h
  simp only [Bool.cond_eq_ite] at h
  repeat' (split at h <;> try cases h)
  · rename_i hk _
    exact (keepB_inv hk).1
  · rfl
  · rfl
  · rename_i hk _ _
    exact (keepB_inv hk).1

theorem step_accs {ops : List Oper} {o : Oper} {s s1 : St} {a : List Acc} (h : stepD T flip (keepB C) ops o s = some (s1, a)) {x : Acc} (hx : x ∈ a) : AccOk flip o x := by
  unfold stepD at h
  split at h
  · split at h
    · rename_i d st' ho
      injection h with h; injection h with h1 h2; subst h1; subst h2
      rw [accs_calls (fun c hc f hf => by
        obtain ⟨dst, op, ty, pos, af, gd⟩ := o
        simp only at hc
        subst hc
        simp only [opV, hf] at ho
        exact callOp_keeps ho) (fun c hc r m hf => by
        obtain ⟨dst, op, ty, pos, af, gd⟩ := o
        simp only at hc
        subst hc
        simp only [opV, hf] at ho
        cases ho)] at hx
      exact accs_ok hx
    · cases h
  · injection h with h; injection h with h1 h2; subst h1; subst h2
    cases hx
  · cases h

theorem al_ext (o : Oper) (h : isAl flip o = true) : isExt flip o = false := by
  unfold isAl at h
  split at h
  · rename_i e he; unfold isExt; rw [he]
  · cases h

theorem calm_clash {x y : Oper} {a b : List Acc} (hc : calm flip x y = true) (ha : ∀ e, e ∈ a → AccOk flip x e) (hb : ∀ e, e ∈ b → AccOk flip y e) : clashL b a = false := by
  unfold calm at hc
  simp only [Bool.and_eq_true, Bool.or_eq_true, Bool.not_eq_true', Bool.and_eq_false_iff] at hc
  obtain ⟨⟨h1, h2⟩, h3⟩ := hc
  unfold clashL
  rw [List.any_eq_false]
  intro e he hcl
  rw [List.any_eq_true] at hcl
  obtain ⟨k, hk, hek⟩ := hcl
  have p := hb e he
  have q := ha k hk
  have e1 := al_ext (flip := flip) x
  have e2 := al_ext (flip := flip) y
  cases e <;> cases k <;> simp [Acc.clash] at hek <;> simp [AccOk] at p q <;> simp_all

theorem runD_at {ops : List Oper} : ∀ {rest : List Oper} {s s' : St} {l : List (List Acc)}, runD T flip (keepB C) ops rest s = some (s', l) → ∀ (m : Nat) (o : Oper) (a : List Acc), rest[m]? = some o → l[m]? = some a → ∀ x, x ∈ a → AccOk flip o x
  | [], s, s', l, h, m, o, a, ho, _ => by simp at ho
  | o :: rest, s, s', l, h, m, o', a, ho, ha => by
    simp only [runD] at h
    split at h <;> try cases h
    rename_i s1 a1 hs
    split at h <;> try cases h
    rename_i s2 l2 hr
    cases m with
    | zero =>
      simp at ho ha
      subst ho; subst ha
      exact fun x hx => step_accs hs hx
    | succ m => exact runD_at hr m o' a (by simpa using ho) (by simpa using ha)

theorem against_at {α : Type} {f : α → Bool} {m : Nat} : ∀ {l : List α} {k : Nat}, against f m l k = true → ∀ (j : Nat) (y : α), l[j]? = some y → f y = true ∨ m.testBit (k + j) = true
  | [], k, _, j, y, hy => by simp at hy
  | z :: r, k, h, j, y, hy => by
    simp only [against, Bool.and_eq_true, Bool.or_eq_true] at h
    cases j with
    | zero => simp at hy; subst hy; exact h.1
    | succ j =>
      have := against_at h.2 j y (by simpa using hy)
      rw [show k + (j + 1) = k + 1 + j by omega]
      exact this

theorem pairs_at {α : Type} {f : α → α → Bool} {all : List α} : ∀ {l : List α} {ms : List Nat} {i0 : Nat}, allPairs f all l ms i0 = true → ∀ (i j : Nat) (x y : α), l[i]? = some x → all[j]? = some y → j < i0 + i → f x y = true ∨ (ms.getD i 0).testBit j = true
  | [], _, i0, _, i, j, x, y, hx, _, _ => by simp at hx
  | z :: r, [], i0, h, i, j, x, y, hx, _, _ => by simp [allPairs] at h
  | z :: r, m :: ms, i0, h, i, j, x, y, hx, hy, hj => by
    simp only [allPairs, Bool.and_eq_true] at h
    cases i with
    | zero =>
      simp at hx; subst hx
      have := against_at h.1 j y (by rw [List.getElem?_take_of_lt (by omega)]; exact hy)
      simpa using this
    | succ i =>
      have := pairs_at h.2 i j x y (by simpa using hx) hy (by omega)
      simpa using this

theorem back_at : ∀ {l : List Oper} {i0 : Nat}, backOk l i0 = true → ∀ (i : Nat) (o : Oper) (e : Edge), l[i]? = some o → e ∈ o.after.toList → Region.binds .any e = true → e.on < i0 + i
  | [], i0, _, i, o, e, ho, _, _ => by simp at ho
  | z :: r, i0, h, i, o, e, ho, he, hb => by
    simp only [backOk, Bool.and_eq_true, List.all_eq_true, Bool.or_eq_true, Bool.not_eq_true'] at h
    cases i with
    | zero =>
      simp at ho; subst ho
      exact Nat.blt_lt ((h.1 e he).resolve_left (by simp [hb]))
    | succ i =>
      have := back_at h.2 i o e (by simpa using ho) he hb
      omega

theorem facts_apart {ops : List Oper} {A : Nat → List Acc} (ha : apartAll ops = true) (hk : ∀ i j x y, j < i → ops[i]? = some x → ops[j]? = some y → ((ancM ops).getD i 0).testBit j = true ∨ clashL (A j) (A i) = false) : Facts ops A := by
  unfold apartAll at ha
  simp only [Bool.and_eq_true] at ha
  constructor
  · intro i j x y hji hx hy
    rcases pairs_at ha.2 i j x y hx hy (by omega) with h1 | h1
    · rcases hk i j x y hji hx hy with h2 | h2
      · exact .inl h2
      · exact .inr ⟨h1, h2⟩
    · exact .inl h1
  · intro i o e ho he hb
    have := back_at ha.1 i o e ho he hb
    omega

/-- By their text. -/
theorem facts_of {ops : List Oper} {l : List (List Acc)} (hl : l.length = ops.length) (ha : apartAll ops = true) (hca : calmAll flip ops = true) (hk : ∀ (m : Nat) (o : Oper) (a : List Acc), ops[m]? = some o → l[m]? = some a → ∀ x, x ∈ a → AccOk flip o x) : Facts ops (fun i => l.getD i []) := by
  refine facts_apart ha (fun i j x y hji hx hy => ?_)
  have hi : i < ops.length := (List.getElem?_eq_some_iff.1 hx).1
  rcases pairs_at hca i j x y hx hy (by omega) with h2 | h1
  · have hj : j < l.length := by omega
    have hi' : i < l.length := by omega
    refine .inr ?_
    simp only [List.getD_eq_getElem?_getD, List.getElem?_eq_getElem hj, List.getElem?_eq_getElem hi', Option.getD_some]
    exact calm_clash h2 (hk i x _ hx (List.getElem?_eq_getElem hi')) (hk j y _ hy (List.getElem?_eq_getElem hj))
  · exact .inl h1

/-- By what they touch. -/
theorem facts_dyn {ops : List Oper} {l : List (List Acc)} (hl : l.length = ops.length) (ha : apartAll ops = true) (hk : okAccs ops l = true) : Facts ops (fun i => l.getD i []) := by
  refine facts_apart ha (fun i j x y hji hx hy => ?_)
  have hi : i < ops.length := (List.getElem?_eq_some_iff.1 hx).1
  have hj : j < l.length := by omega
  have hi' : i < l.length := by omega
  rcases pairs_at hk i j _ _ (List.getElem?_eq_getElem hi') (List.getElem?_eq_getElem hj) (by omega) with h2 | h2
  · refine .inr ?_
    simp only [List.getD_eq_getElem?_getD, List.getElem?_eq_getElem hj, List.getElem?_eq_getElem hi', Option.getD_some]
    simpa using h2
  · exact .inl h2

/-- Whatever comes ahead of what is ready is listed. -/
theorem ancOf_listed {acc : List Nat} {listed : Array Bool} {j : Nat} (hacc : ∀ i j, listed.getD i false = true → (acc.getD i 0).testBit j = true → listed.getD j false = true) : ∀ {es : List Edge}, (∀ e, e ∈ es → Region.binds .any e = true → listed.getD e.on false = true) → (ancOf acc es).testBit j = true → listed.getD j false = true
  | [], _, h => by simp [ancOf] at h
  | e :: r, he, h => by
    simp only [ancOf] at h
    cases hb : Region.binds .any e with
    | false =>
      rw [hb] at h
      exact ancOf_listed hacc (fun e' he' => he e' (by simp [he'])) h
    | true =>
      rw [hb] at h
      simp only [cond_true, Nat.testBit_or, Bool.or_eq_true] at h
      have hl := he e (by simp) hb
      rcases h with (h | h) | h
      · rw [Nat.testBit_two_pow] at h
        have : e.on = j := by simpa using h
        rw [← this]; exact hl
      · exact hacc e.on j hl h
      · exact ancOf_listed hacc (fun e' he' => he e' (by simp [he'])) h

theorem ancGo_listed {listed : Array Bool} : ∀ {rest : List Oper} {acc : List Nat},
    (∀ i o, rest[i]? = some o → listed.getD (acc.length + i) false = true → ∀ e, e ∈ o.after.toList → Region.binds .any e = true → listed.getD e.on false = true) →
    (∀ i j, listed.getD i false = true → (acc.getD i 0).testBit j = true → listed.getD j false = true) →
    (∀ i j, listed.getD i false = true → ((ancGo acc rest).getD i 0).testBit j = true → listed.getD j false = true) ∧
      ∀ i o j, rest[i]? = some o → (∀ e, e ∈ o.after.toList → Region.binds .any e = true → listed.getD e.on false = true) → ((ancGo acc rest).getD (acc.length + i) 0).testBit j = true → listed.getD j false = true
  | [], acc, _, hacc => ⟨hacc, fun i o j ho => by simp at ho⟩
  | o :: r, acc, hcl, hacc => by
    have hnew : ∀ i j, listed.getD i false = true → ((acc ++ [ancOf acc o.after.toList]).getD i 0).testBit j = true → listed.getD j false = true := fun i j hi h => by
      simp only [List.getD_eq_getElem?_getD] at h
      rcases Nat.lt_trichotomy i acc.length with hlt | heq | hgt
      · rw [List.getElem?_append_left hlt] at h
        exact hacc i j hi (by simpa only [List.getD_eq_getElem?_getD] using h)
      · subst heq
        rw [List.getElem?_append_right (Nat.le_refl _)] at h
        simp at h
        exact ancOf_listed hacc (hcl 0 o rfl (by simpa using hi)) h
      · rw [List.getElem?_eq_none (by simp; omega)] at h
        simp at h
    have hrec := ancGo_listed (rest := r) (acc := acc ++ [ancOf acc o.after.toList]) (fun i o' ho hl => by
      have := hcl (i + 1) o' (by simpa using ho)
      refine this ?_
      simp only [List.length_append, List.length_cons, List.length_nil] at hl
      rw [show acc.length + (i + 1) = acc.length + (0 + 1) + i by omega]; exact hl) hnew
    refine ⟨hrec.1, fun i o' j ho he h => ?_⟩
    cases i with
    | succ i =>
      refine hrec.2 i o' j (by simpa using ho) he ?_
      simp only [List.length_append, List.length_cons, List.length_nil]
      rw [show acc.length + (0 + 1) + i = acc.length + (i + 1) by omega]; exact h
    | zero =>
      simp at ho; subst ho
      have hpre : ∀ (rest : List Oper) (acc : List Nat) (k : Nat), k < acc.length → (ancGo acc rest).getD k 0 = acc.getD k 0 := by
        intro rest
        induction rest with
        | nil => intro acc k _; rfl
        | cons o r ih =>
          intro acc k hk
          simp only [ancGo]
          rw [ih _ _ (by simp; omega)]
          simp only [List.getD_eq_getElem?_getD, List.getElem?_append_left hk]
      have hval : ((ancGo acc (o :: r)).getD (acc.length + 0) 0) = ancOf acc o.after.toList := by
        simp only [ancGo, Nat.add_zero]
        rw [hpre _ _ _ (by simp)]
        simp [List.getD_eq_getElem?_getD]
      rw [hval] at h
      exact ancOf_listed hacc he h

theorem anc_listed {ops : List Oper} {listed : Array Bool} (hcl : ∀ i o, ops[i]? = some o → listed.getD i false = true → ∀ e, e ∈ o.after.toList → Region.binds .any e = true → listed.getD e.on false = true)
    (i j : Nat) (o : Oper) (ho : ops[i]? = some o) (he : ∀ e, e ∈ o.after.toList → Region.binds .any e = true → listed.getD e.on false = true) (h : ((ancM ops).getD i 0).testBit j = true) : listed.getD j false = true := by
  have := (ancGo_listed (rest := ops) (acc := []) (fun i o ho hl => hcl i o ho (by simpa using hl)) (fun i j _ h => by simp at h)).2 i o j ho he
  exact this (by simpa [ancM] using h)

theorem any_spec (hT : TabOk c.P T) (hC : CallOK c C) {nt : Nat} {ops : List Oper} {A : Nat → List Acc} {Q : Exit → Act → World → Prop} {st' : St} (hfa : Facts ops A) (hd : ops.all (dstOk nt) = true)
    (hq : ∀ g' a' w', Inv c nt st' a' g' w' → Q .normal a' w') : ∀ (fuel : Nat) (R : List Nat) (listed : Array Bool) (st : St) (a : Act) (g : Gh) (w : World),
    R.Pairwise (· < ·) → (∀ i, i ∈ R ↔ i < ops.length ∧ listed.getD i true = false) → R.length = fuel → listed.size = ops.length →
    (∀ i o, ops[i]? = some o → listed.getD i false = true → ∀ e, e ∈ o.after.toList → Region.binds .any e = true → listed.getD e.on false = true) →
    RunA T flip C ops A R st st' → Inv c nt st a g w → wpAny c.P .any ops.toArray Q fuel listed a w := by
  have hsame : ∀ (listed : Array Bool), listed.size = ops.length → ∀ i, i < ops.length → listed.getD i true = listed.getD i false := fun listed hs i hi => by
    simp [hs, hi]
  have hnil : ∀ (R : List Nat) (listed : Array Bool) (st : St) (a : Act) (g : Gh) (w : World), listed.size = ops.length → R.Pairwise (· < ·) → (∀ i, i ∈ R ↔ i < ops.length ∧ listed.getD i true = false) →
      RunA T flip C ops A R st st' → Inv c nt st a g w → Region.ready .any ops.toArray listed = [] → Q .normal a w := by
    intro R listed st a g w hsz hp hR hrun hi hr
    cases R with
    | nil =>
      cases hrun with
      | nil hs => exact hq g a w (hi.sim hs)
    | cons i R =>
      exfalso
      have him := (hR i).1 (by simp)
      have : i ∈ Region.ready .any ops.toArray listed := by
        rw [mem_ready]
        refine ⟨him.2, ops[i]'him.1, by simp [him.1], fun e he hb => ?_⟩
        have hon := hfa.2 i _ e (List.getElem?_eq_getElem him.1) (by simpa using he) hb
        have hlt : e.on < ops.length := Nat.lt_trans hon him.1
        rw [← hsame listed hsz _ hlt]
        cases hl : listed.getD e.on true with
        | true => rfl
        | false =>
          have hm := (hR e.on).2 ⟨hlt, hl⟩
          rcases List.mem_cons.1 hm with hm | hm
          · omega
          · have := (List.pairwise_cons.1 hp).1 _ hm
            omega
      rw [hr] at this
      cases this
  intro fuel
  induction fuel with
  | zero =>
    intro R listed st a g w hp hR hlen hsz hcl hrun hi
    have h0 : R = [] := List.length_eq_zero_iff.1 hlen
    have hr : Region.ready .any ops.toArray listed = [] := by
      cases hr : Region.ready .any ops.toArray listed with
      | nil => rfl
      | cons i l =>
        exfalso
        have hm : i ∈ Region.ready .any ops.toArray listed := by rw [hr]; simp
        obtain ⟨h1, o, ho, _⟩ := mem_ready.1 hm
        have hlt : i < ops.length := by
          have := (Array.getElem?_eq_some_iff.1 ho).1
          simpa using this
        have := (hR i).2 ⟨hlt, h1⟩
        rw [h0] at this
        cases this
    exact ⟨hr, hnil R listed st a g w hsz hp hR hrun hi hr⟩
  | succ fuel ih =>
    intro R listed st a g w hp hR hlen hsz hcl hrun hi
    refine ⟨fun hr => hnil R listed st a g w hsz hp hR hrun hi hr, fun i hm => ?_⟩
    obtain ⟨h1, o, ho, hall⟩ := mem_ready.1 hm
    have ho' : ops[i]? = some o := by simpa using ho
    have hlt : i < ops.length := (List.getElem?_eq_some_iff.1 ho').1
    have hall' : ∀ e, e ∈ o.after.toList → Region.binds .any e = true → listed.getD e.on false = true := fun e he hb => hall e (by simpa using he) hb
    obtain ⟨pre, post, hsplit⟩ := List.append_of_mem ((hR i).2 ⟨hlt, h1⟩)
    subst hsplit
    have hpre : ∀ j, j ∈ pre → j < i := fun j hj => (List.pairwise_append.1 hp).2.2 j hj i (by simp)
    have hpost : ∀ j, j ∈ post → i < j := fun j hj => (List.pairwise_cons.1 (List.pairwise_append.1 hp).2.1).1 j hj
    obtain ⟨kx, s1, hs, hrun'⟩ := bubble ho' pre hrun (fun j hj y hy => by
      have hji := hpre j hj
      refine (hfa.1 i j o y hji ho' hy).resolve_left (fun hanc => ?_)
      have hl := anc_listed hcl i j o ho' hall' hanc
      have := ((hR j).1 (by simp [hj])).2
      rw [hsame listed hsz j (by omega), hl] at this
      cases this) (fun z hz => (hi.env.eval z).range)
    have hdo : dstOk nt o = true := List.all_eq_true.1 hd o (List.mem_of_getElem? ho')
    have hstep : ∀ (g' : Gh) (a' : Act) (w' : World), Inv c nt s1 a' g' w' → wpAny c.P .any ops.toArray Q fuel (listed.setIfInBounds i true) a' w' := fun g' a' w' hi' => by
      refine ih (pre ++ post) _ s1 a' g' w' ?_ (fun j => ?_) (by simp at hlen ⊢; omega) (by simp [hsz]) (fun j oj hj hlj e he hb => ?_) hrun' hi'
      · exact List.Pairwise.sublist (List.Sublist.append_left (List.sublist_cons_self i post) pre) hp
      · by_cases hij : i = j
        · subst hij
          constructor
          · intro h
            rcases List.mem_append.1 h with h | h
            · exact absurd (hpre _ h) (Nat.lt_irrefl _)
            · exact absurd (hpost _ h) (Nat.lt_irrefl _)
          · intro h
            have := h.2
            simp [hsz, hlt] at this
        · rw [getD_set_ne true hij, ← hR j]
          simp [Ne.symm hij]
      · by_cases hij : i = j
        · subst hij
          rw [ho'] at hj; injection hj with hj; subst hj
          exact getD_set_true (hall' e he hb)
        · rw [getD_set_ne false hij] at hlj
          exact getD_set_true (hcl j oj hj hlj e he hb)
    unfold wpOp
    rw [ho]
    simp only []
    unfold stepX at hs
    split at hs
    · rename_i e he
      split at hs
      · rename_i hw
        have hwant := wanted_of hi.env hw
        rw [hwant]
        simp only [if_true]
        split at hs
        · rename_i ti ht
          split at hs
          · cases hs
          · rename_i hk
            injection hs with hs; injection hs with e1 e2
            refine .inl (op_alloc_at (st := st) hT hk (alOf_some he).1 hi.fs ht _ Q (fun v w' g' f1 f2 f3 => ?_))
            refine hstep g' _ w' ?_
            rw [← e1]
            exact inv_put (st' := { st with L := ins st.L kx ti.zero.cells }) hi hdo f1 f2 f3
        · cases hs
      · rename_i hw
        have hwant := wanted_of hi.env hw
        rw [hwant]
        simp only [Bool.false_eq_true, if_false]
        injection hs with hs; injection hs with e1 e2
        refine hstep g _ w ?_
        rw [← e1]
        exact inv_put hi hdo hi.fs (Gle.refl _ _ _ _ _) (.tuple [] #[] rfl (fun i d hi => by simp at hi))
      · cases hs
    unfold stepD at hs
    split at hs
    · rename_i hw
      have hwant := wanted_of hi.env hw
      rw [hwant]
      simp only [if_true]
      split at hs
      · rename_i d st1 hop
        injection hs with hs; injection hs with e1 e2
        refine .inl (op_all hT hC hi.fs hi.env hop _ Q (fun v w' g' f1 f2 f3 => ?_))
        refine hstep g' _ w' ?_
        rw [← e1]
        exact inv_put hi hdo f1 f2 f3
      · cases hs
    · rename_i hw
      have hwant := wanted_of hi.env hw
      rw [hwant]
      simp only [Bool.false_eq_true, if_false]
      injection hs with hs; injection hs with e1 e2
      refine hstep g _ w ?_
      rw [← e1]
      exact inv_put hi hdo hi.fs (Gle.refl _ _ _ _ _) (.tuple [] #[] rfl (fun i d hi => by simp at hi))
    · cases hs

theorem drawOK (hm : c.P.follows .mixedOrders = true) (hT : TabOk c.P T) (hC : CallOK c C) : DrawOK c T C := by
  intro flip nt id ops dyn st st' a g w Q h hi hd hap hcd hq
  obtain ⟨C', hC', l, hr, hfa⟩ : ∃ C', CallOK c C' ∧ ∃ l, runD T flip C' ops.toList ops.toList st = some (st', l) ∧ Facts ops.toList (fun i => l.getD i []) := by
    simp only [regionV, Bool.true_and] at h
    cases dyn with
    | true =>
      simp only [cond_true] at h
      split at h <;> try cases h
      rename_i s' l hr
      cases hok : okAccs ops.toList l with
      | false => rw [hok] at h; cases h
      | true =>
        rw [hok] at h
        simp only [cond_true] at h
        injection h with h; subst h
        exact ⟨C, hC, l, hr, facts_dyn (runD_length hr) hap hok⟩
    | false =>
      simp only [CC, cond_true, cond_false] at h
      obtain ⟨l, hr⟩ := runD_of h
      exact ⟨keepB C, keepB_ok hC, l, hr, facts_of (runD_length hr) hap (by simpa using hcd) (runD_at hr)⟩
  have hlen := runD_length hr
  obtain ⟨f1, f2⟩ := hi.fs.same (w' := { w with drawn := w.drawn + 1 }) rfl rfl rfl rfl
  have hi2 : Inv c nt st a g { w with drawn := w.drawn + 1 } := ⟨f1, hi.env.mono f2, hi.size, hi.defers⟩
  have hrun := runA_of (A := fun i => l.getD i []) (k := 0) hr (fun m o hm => by simpa using hm) (fun m hm => by simp [hm])
  have := any_spec (Q := Q) hT hC' hfa hd hq ops.size (List.range' 0 ops.toList.length) (Array.replicate ops.size false) st a g _ List.pairwise_lt_range' (fun i => by
      have hlen : ops.toList.length = ops.size := by simp
      simp only [List.mem_range'_1, hlen]
      constructor
      · rintro ⟨_, h⟩; exact ⟨by omega, by
          have hi : i < ops.size := by omega
          simp [hi]⟩
      · rintro ⟨h, _⟩; exact ⟨by omega, by omega⟩) (by simp) (by simp) (fun i o ho hl => by
        by_cases hi : i < ops.size
        · simp [hi] at hl
        · simp [hi] at hl) hrun hi2
  exact wp_region_any hm (by simpa using this)

end Go.Proofs.YtploddijjofphaaDoor.V
