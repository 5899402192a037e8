import Derived.Test.YtbbbhalmlboapaaDoorUU
import Derived.LoopN
import Derived.Orders
/-
What the interpreter says of an operation, the machine does.
-/
namespace Go.Proofs.YtbbbhalmlboapaaDoor.V
set_option linter.unusedSimpArgs false
set_option linter.unusedVariables false
open Go Go.RowKit

variable {c : Cx} {g : Gh} {w : World}

theorem cond_some {α : Type} {b : Bool} {x y z : α} (h : (bif b then some x else some y) = some z) : x = z ∨ y = z := by
  cases b
  · exact .inr (Option.some.inj h)
  · exact .inl (Option.some.inj h)

theorem op_all {T : Tab} (hT : TabOk c.P T) {C : Callees} (hC : CallOK c C) {flip : Nat → Nat} {st st' : St} {a : Act} {o : Oper} {d : D} (hf : FS c g st.L st.τ st.B w) (he : EnvR c g (dom st.L) st.τ.length w st.ρ a)
    (hd : opV T flip C o st = some (d, st')) : OpOk c g st w a o d st' := by
  unfold opV at hd
  split at hd
  · rename_i x ho
    injection hd with hd; injection hd with h1 h2; subst h1; subst h2
    exact op_move (.inl ho) hf he
  · rename_i x ho
    injection hd with hd; injection hd with h1 h2; subst h1; subst h2
    exact op_move (.inr ho) hf he
  · rename_i x y z ho
    split at hd
    · rename_i t hx
      injection hd with hd; injection hd with h1 h2; subst h1; subst h2
      exact op_pick ho hf he hx
    · cases hd
  · rename_i e ho
    split at hd
    · rename_i ti ht
      cases hfl : Nat.beq (flipD flip o.dst) 0 with
      | true =>
        rw [hfl] at hd
        injection hd with hd; injection hd with h1 h2; subst h1; subst h2
        exact op_alloc hT ho hf ht
      | false =>
        rw [hfl] at hd
        simp only [cond_false] at hd
        cases hgl : ti.zero.cells.all D.global with
        | false => rw [hgl] at hd; cases hd
        | true =>
          rw [hgl] at hd
          injection hd with hd; injection hd with h1 h2; subst h1; subst h2
          exact op_alloc_shared hT ho hf ht
    · cases hd
  · rename_i e x ho
    split at hd
    · rename_i ti ht
      cases hb : (Nat.beq (evalT T e st.ρ x).cells.length ti.sz && (evalT T e st.ρ x).cells.all D.leaf) with
      | false => rw [hb] at hd; cases hd
      | true =>
        rw [hb] at hd
        simp only [cond_true] at hd
        simp only [Bool.and_eq_true] at hb
        cases hfl : Nat.beq (flipD flip o.dst) 0 with
        | true =>
          rw [hfl] at hd
          injection hd with hd; injection hd with h1 h2; subst h1; subst h2
          exact op_box (T := T) ho hf he hb.2
        | false =>
          rw [hfl] at hd
          simp only [cond_false] at hd
          split at hd
          · rename_i ds hds
            cases hfl1 : Nat.beq (flipD flip o.dst) 1 with
            | true =>
              rw [hfl1] at hd
              injection hd with hd; injection hd with h1 h2; subst h1; subst h2
              exact op_box_frozen (T := T) ho hf he hb.2 hds
            | false =>
              rw [hfl1] at hd
              injection hd with hd; injection hd with h1 h2; subst h1; subst h2
              exact op_box_shared (T := T) ho hf he hb.2 hds
          · cases hd
    · cases hd
  · rename_i fn first caps ho
    split at hd
    · rename_i f hfi
      cases hfl : (capsV st.ρ caps.toList).all D.flat with
      | false => rw [hfl] at hd; cases hd
      | true =>
        rw [hfl] at hd
        injection hd with hd; injection hd with h1 h2; subst h1; subst h2
        exact op_makeFunc ho hfi hf he hfl
    · cases hd
  · rename_i t parts ho
    split at hd
    · rename_i d' hb
      injection hd with hd; injection hd with h1 h2; subst h1; subst h2
      exact op_build hT ho hf he hb
    · cases hd
  · rename_i t len parts ho
    split at hd
    · rename_i ti ht
      split at hd
      · rename_i e htd
        split at hd
        · rename_i ei hei
          split at hd
          · rename_i ps hps
            cases hb : (Nat.beq ei.sz 0 || !(Nat.ble (len * ei.sz) 16777216)) with
            | true => rw [hb] at hd; cases hd
            | false =>
              rw [hb] at hd
              simp only [cond_false] at hd
              simp only [Bool.or_eq_false_iff, Bool.not_eq_false'] at hb
              split at hd
              · rename_i xs hfill
                have key := op_buildSlice hT ho hf he ht htd hei hps (fun h => by have := hb.1; simp [h] at this) (Nat.le_of_ble_eq_true hb.2) hfill
                have hcs : ∀ {b : Bool} {x y : Option (D × St)}, (bif b then x else y) = some (d, st') → x = some (d, st') ∨ y = some (d, st') := fun {b x y} h => by
                  cases b
                  · exact .inr h
                  · exact .inl h
                rcases hcs hd with hd | hd
                · cases hb2 : (Nat.beq ei.sz 1 && xs.all D.leaf) with
                  | false => rw [hb2] at hd; cases hd
                  | true =>
                    rw [hb2] at hd
                    simp only [cond_true] at hd
                    simp only [Bool.and_eq_true] at hb2
                    injection hd with hd; injection hd with h1 h2; subst h1; subst h2
                    exact key.2 (beq_of hb2.1) hb2.2
                · injection hd with hd; injection hd with h1 h2; subst h1; subst h2
                  exact key.1
              · cases hd
          · cases hd
        · cases hd
      · cases hd
    · cases hd
  · rename_i t x ho
    split at hd
    · rename_i d' hl
      injection hd with hd; injection hd with h1 h2; subst h1; subst h2
      exact op_load hT ho hf he hl
    · cases hd
  · rename_i t p x ho
    split at hd
    · rename_i st2 hs
      injection hd with hd; injection hd with h1 h2; subst h1; subst h2
      exact op_store hT ho hf he hs
    · cases hd
  · rename_i x ho
    split at hd
    · rename_i i off hx
      injection hd with hd; injection hd with h1 h2; subst h1; subst h2
      exact op_nilCheck ho hf he hx (.inl ⟨_, _, rfl⟩)
    · rename_i b off hx
      injection hd with hd; injection hd with h1 h2; subst h1; subst h2
      exact op_nilCheck ho hf he hx (.inr (.inl ⟨_, _, rfl⟩))
    · rename_i ds hx
      injection hd with hd; injection hd with h1 h2; subst h1; subst h2
      exact op_nilCheck ho hf he hx (.inr (.inr ⟨_, rfl⟩))
    · cases hd
  · rename_i op t x y u ho
    split at hd
    · rename_i d' hb
      injection hd with hd; injection hd with h1 h2; subst h1; subst h2
      exact op_binOp hT ho hf he hb
    · cases hd
  · rename_i op t x ho
    split at hd
    · rename_i d' hb
      injection hd with hd; injection hd with h1 h2; subst h1; subst h2
      exact op_unOp ho hf he hb
    · cases hd
  · rename_i s t x ho
    exact op_convert hT ho hf he hd
  · rename_i t x ho
    split at hd
    · rename_i ti ht
      split at hd
      · cases hd
      · cases hd
      · rename_i h1 h2
        cases hg : (evalT T t st.ρ x).global with
        | false => rw [hg] at hd; cases hd
        | true =>
          rw [hg] at hd
          simp only [cond_true] at hd
          injection hd with hd; injection hd with e1 e2; subst e1; subst e2
          exact op_makeInterface hT ho hf he ht (fun h => h1 h) (fun h => h2 h) hg
    · cases hd
  · rename_i t l m ho
    split at hd
    · rename_i _ ti _ ht
      split at hd
      · rename_i e htd
        split at hd
        · rename_i ei n m' hei hl hm
          split at hd
          · rename_i hnm
            obtain ⟨rfl, h0⟩ := hnm
            cases hb : (roomy n.toNat ei.bytes && Nat.beq ei.sz 1 && Nat.ble 1 ei.bytes && ei.zero.leaf) with
            | false => rw [hb] at hd; cases hd
            | true =>
              rw [hb] at hd
              simp only [cond_true] at hd
              simp only [Bool.and_eq_true] at hb
              obtain ⟨⟨⟨b1, b2⟩, b3⟩, b4⟩ := hb
              have hn : n = ((n.toNat : Nat) : Int) := by omega
              have key := op_makeSlice hT ho hf he ht htd hei (n := n.toNat) (by rw [hl, ← hn]) (by rw [hm, ← hn]) (roomy_le b1) (beq_of b2) (Nat.le_of_ble_eq_true b3) b4
              rcases cond_some hd with hd | hd
              · injection hd with e1 e2; subst e1; subst e2; exact key.1
              · injection hd with e1 e2; subst e1; subst e2; exact key.2
          · split at hd
            · rename_i hnm
              obtain ⟨rfl, h0⟩ := hnm
              cases hb : (roomy m'.toNat ei.bytes && Nat.beq ei.sz 1 && Nat.ble 1 ei.bytes && ei.zero.leaf) with
              | false => rw [hb] at hd; cases hd
              | true =>
                rw [hb] at hd
                simp only [cond_true] at hd
                simp only [Bool.and_eq_true] at hb
                obtain ⟨⟨⟨b1, b2⟩, b3⟩, b4⟩ := hb
                have hn : m' = ((m'.toNat : Nat) : Int) := by omega
                injection hd with hd; injection hd with e1 e2; subst e1; subst e2
                exact op_makeRoom hT ho hf he ht htd hei (n := m'.toNat) hl (by rw [hm, ← hn]) (roomy_le b1) (beq_of b2) (Nat.le_of_ble_eq_true b3)
            · cases hd
        · cases hd
      · cases hd
    · cases hd
  · rename_i t x lo hi mx ho
    split at hd
    · rename_i arr sz l h m hrow hl hh hm
      split at hd
      · rename_i d' hs
        injection hd with hd; injection hd with e1 e2; subst e1; subst e2
        exact op_slice hT ho hf he hrow hl hh hm hs
      · cases hd
    · cases hd
  · rename_i s x f ho
    split at hd
    · rename_i ti ht
      split at hd
      · rename_i fs htd
        split at hd
        · rename_i off u hfs
          split at hd
          · rename_i ui d' hu hfa
            cases hb : Nat.beq ui.sz 0 with
            | true => rw [hb] at hd; cases hd
            | false =>
              rw [hb] at hd
              simp only [cond_false] at hd
              injection hd with hd; injection hd with e1 e2; subst e1; subst e2
              exact op_fieldAddr hT ho hf he ht htd hfs hu (fun h => by simp [h] at hb) hfa
          · cases hd
        · cases hd
      · cases hd
    · cases hd
  · rename_i s x f ho
    split at hd
    · rename_i ti ht
      split at hd
      · rename_i fs htd
        split at hd
        · rename_i off u hfs
          split at hd
          · rename_i ui ds hu hx
            split at hd
            · rename_i d' hp
              injection hd with hd; injection hd with e1 e2; subst e1; subst e2
              exact op_field hT ho hf he ht htd hfs hu hx hp
            · cases hd
          · cases hd
        · cases hd
      · cases hd
    · cases hd
  · rename_i t x i ho
    split at hd
    · rename_i arr sz j hrow hj
      split at hd
      · rename_i d' hi
        injection hd with hd; injection hd with e1 e2; subst e1; subst e2
        exact op_indexAddr hT ho hf he hrow hj hi
      · cases hd
    · cases hd
  · rename_i t x i ho
    split at hd
    · rename_i ti j s ht hj hx
      split at hd
      · rename_i htd
        split at hd
        · rename_i b hb
          injection hd with hd; injection hd with e1 e2; subst e1; subst e2
          exact op_index_str hT ho hf he ht htd hj hx hb
        · cases hd
      · cases hd
    · rename_i ti j ds ht hj hx
      split at hd
      · rename_i n e htd
        split at hd
        · rename_i ei hei
          split at hd
          · rename_i hjn
            split at hd
            · rename_i d' hp
              injection hd with hd; injection hd with e1 e2; subst e1; subst e2
              exact op_index_arr hT ho hf he ht htd hei hj hjn hx hp
            · cases hd
          · cases hd
        · cases hd
      · cases hd
    · cases hd
  · rename_i t ix ho
    split at hd
    · rename_i ds hx
      split at hd
      · rename_i d' hi
        injection hd with hd; injection hd with e1 e2; subst e1; subst e2
        exact op_extract ho hf he hx hi
      · cases hd
    · cases hd
  · rename_i cl ho
    split at hd
    · rename_i b hb
      exact op_builtin hT ho hb hf he hd
    · rename_i f hb
      exact op_call hC ho hb hf he hd
    · cases hd
  · cases hd

end Go.Proofs.YtbbbhalmlboapaaDoor.V

/-
Regions whose order is not drawn; code.
-/
namespace Go.Proofs.YtbbbhalmlboapaaDoor.V
set_option linter.unusedSimpArgs false
set_option linter.unusedVariables false
open Go Go.RowKit

variable {c : Cx} {g : Gh} {w : World}

/-- What stands where the code stands. -/
structure Inv (c : Cx) (nt : Nat) (st : St) (a : Act) (g : Gh) (w : World) : Prop where
  fs : FS c g st.L st.τ st.B w
  env : EnvR c g (dom st.L) st.τ.length w st.ρ a
  size : a.tmps.size = nt
  defers : a.defers = []

def dstOk (n : Nat) (o : Oper) : Bool :=
  match o.dst with
  | some t => Nat.blt t n
  | .none => true

def backOk : List Oper → Nat → Bool
  | [], _ => true
  | o :: r, i => (o.after.toList.all fun e => !(Region.binds .any e) || Nat.blt e.on i) && backOk r (i + 1)

/-- Operations of which neither comes ahead of the other one have nothing to do with one another's slots; and what comes ahead stands ahead. -/
def apartAll (ops : List Oper) : Bool := backOk ops 0 && allPairs (fun x y => x.apart ops.toArray y) ops ops (ancM ops) 0

/-- Nor with one another's boxes, by their text. -/
def calmAll (flip : Nat → Nat) (ops : List Oper) : Bool := allPairs (calm flip) ops ops (ancM ops) 0

def codeOk (an : An) (n : Nat) : Code → Bool
  | .region id ops draw => ops.toList.all (dstOk n) && (!draw || (apartAll ops.toList && (an.dyn id || calmAll an.flip ops.toList)))
  | .seq a b => codeOk an n a && codeOk an n b
  | .cond _ a b => codeOk an n a && codeOk an n b
  | .block _ c => codeOk an n c
  | .loop c => codeOk an n c
  | _ => true

theorem Nat.blt_lt {a b : Nat} (h : Nat.blt a b = true) : a < b := Nat.le_of_ble_eq_true h

theorem get_put_self (ρ : Env) (t : Nat) (d : D) : get (put ρ (some t) d) t = d := by
  simp [put, get]

theorem get_put_ne (ρ : Env) (t u : Nat) (d : D) (h : t ≠ u) : get (put ρ (some t) d) u = get ρ u := by
  have : Nat.beq t u = false := by
    cases hb : Nat.beq t u
    · rfl
    · exact absurd (Nat.eq_of_beq_eq_true hb) h
  simp [put, get, this]

theorem env_put {nL : Nat → Prop} {nT n : Nat} {ρ : Env} {a : Act} {o : Oper} {d : D} {v : Value} (he : EnvR c g nL nT w ρ a) (hn : a.tmps.size = n) (ho : dstOk n o = true) (hr : RepF c g nL nT w d v) : EnvR c g nL nT w (put ρ o.dst d) (a.put o.dst v) := by
  unfold dstOk at ho
  cases hd : o.dst with
  | none => exact he
  | some t =>
    rw [hd] at ho
    have hlt := Nat.blt_lt ho
    intro u
    by_cases htu : t = u
    · subst htu
      rw [get_put_self]
      have : (a.put (some t) v).tmps.getD t Go.undef = v := by simp [Act.put, Array.getD_eq_getD_getElem?, Array.getElem?_setIfInBounds, hn, hlt]
      rw [this]; exact hr
    · rw [get_put_ne _ _ _ _ htu]
      have : (a.put (some t) v).tmps.getD u Go.undef = a.tmps.getD u Go.undef := by simp [Act.put, Array.getD_eq_getD_getElem?, Array.getElem?_setIfInBounds_ne htu]
      rw [this]; exact he u

theorem put_size (a : Act) (dst : Option Tmp) (v : Value) : (a.put dst v).tmps.size = a.tmps.size := by cases dst <;> simp [Act.put]
theorem put_defers (a : Act) (dst : Option Tmp) (v : Value) : (a.put dst v).defers = a.defers := by cases dst <;> rfl

theorem wanted_of {nL : Nat → Prop} {nT : Nat} {ρ : Env} {a : Act} {ops : List Oper} {o : Oper} {b : Bool} (he : EnvR c g nL nT w ρ a) (h : wantedV ρ ops o = some b) : Region.wanted o (yielded ops.toArray a.tmps) = b := by
  unfold wantedV at h
  unfold Region.wanted
  split at h
  · injection h with h; subst h; rename_i hg; rw [hg]
  · rename_i j want hg
    rw [hg]
    split at h
    · rename_i o' ho'
      split at h
      · rename_i t ht
        have hr := he t
        have hop : (ops.toArray[j]?).bind (·.dst) = some t := by simp [ho', ht]
        split at h
        · rename_i b' hb'
          injection h with h; subst h
          rw [hb'] at hr
          have hv := hr.bool_inv
          have hy : yielded ops.toArray a.tmps j = some b' := by
            unfold yielded
            rw [hop]
            have : a.tmps[t]? = some (.bool b') := by
              rw [Array.getD_eq_getD_getElem?] at hv
              cases ht : a.tmps[t]? with
              | none => rw [ht] at hv; simp [Go.undef] at hv
              | some x => rw [ht] at hv; simp at hv; rw [hv]
            simp [this]
          simp [hy]
        · rename_i hb'
          injection h with h; subst h
          rw [hb'] at hr
          obtain ⟨vs, hv, _⟩ := hr.tuple_inv
          have hy : yielded ops.toArray a.tmps j = none := by
            unfold yielded
            rw [hop]
            cases ht : a.tmps[t]? with
            | none => simp [ht]
            | some x =>
              rw [Array.getD_eq_getD_getElem?, ht] at hv
              simp at hv
              subst hv
              simp [ht]
          simp [hy]
        · cases h
      · cases h
    · cases h

theorem inv_put {nt : Nat} {st st' : St} {a : Act} {o : Oper} {d : D} {v : Value} {w' : World} {g' : Gh} (h : Inv c nt st a g w) (ho : dstOk nt o = true) (hf : FS c g' st'.L st'.τ st'.B w') (hg : Gle c g (dom st.L) st.τ.length w g' (dom st'.L) st'.τ.length w')
    (hr : RepF c g' (dom st'.L) st'.τ.length w' d v) : Inv c nt { st' with ρ := put st.ρ o.dst d } (a.put o.dst v) g' w' :=
  ⟨hf, env_put (h.env.mono hg) h.size ho hr, by rw [put_size]; exact h.size, by rw [put_defers]; exact h.defers⟩

theorem ops_spec {T : Tab} (hT : TabOk c.P T) {C : Callees} (hC : CallOK c C) {flip : Nat → Nat} {nt : Nat} {ops : List Oper} {Q : Exit → Act → World → Prop} : ∀ (rest : List Oper) {st st' : St} {a : Act} {g : Gh} {w : World},
    opsV T flip C ops rest st = some st' → Inv c nt st a g w → rest.all (dstOk nt) = true → (∀ g' a' w', Inv c nt st' a' g' w' → Q .normal a' w') → wpList c.P ops.toArray Q rest a w
  | [], st, st', a, g, w, h, hi, _, hq => by
    simp [opsV] at h; subst h
    exact wpList_nil (hq g a w hi)
  | o :: rest, st, st', a, g, w, h, hi, hd, hq => by
    simp only [List.all_cons, Bool.and_eq_true] at hd
    simp only [opsV] at h
    split at h
    · rename_i hw
      have hwant := wanted_of hi.env hw
      split at h
      · rename_i d st1 ho
        simp only [wpList, hwant, if_true]
        refine .inl (op_all hT hC hi.fs hi.env ho _ Q (fun v w' g' h1 h2 h3 => ?_))
        exact ops_spec hT hC rest h (inv_put hi hd.1 h1 h2 h3) hd.2 hq
      · cases h
    · rename_i hw
      have hwant := wanted_of hi.env hw
      simp only [wpList, hwant]
      refine ops_spec hT hC rest h (inv_put hi hd.1 hi.fs (Gle.refl _ _ _ _ _) ?_) hd.2 hq
      exact .tuple [] #[] rfl (fun i d hi => by simp at hi)
    · cases h

theorem get_map (ρ : Env) (t : Nat) : ∀ (l : List Nat), get (l.map fun t => (t, get ρ t)) t = get ρ t ∨ get (l.map fun t => (t, get ρ t)) t = .undef
  | [] => .inr rfl
  | x :: l => by
    simp only [List.map_cons, get]
    cases hb : Nat.beq x t with
    | true => simp only [cond_true]; rw [Nat.eq_of_beq_eq_true hb]; exact .inl rfl
    | false => simp only [cond_false]; exact get_map ρ t l

theorem env_prune {nL : Nat → Prop} {nT : Nat} {ρ : Env} {a : Act} (he : EnvR c g nL nT w ρ a) (keep : Option (List Nat)) : EnvR c g nL nT w (prune keep ρ) a := fun t => by
  cases keep with
  | none => exact he t
  | some l =>
    rcases get_map ρ t l with h | h
    · show RepF _ _ _ _ _ (get _ t) _
      simp only [prune]; rw [h]; exact he t
    · show RepF _ _ _ _ _ (get _ t) _
      simp only [prune]; rw [h]; exact .undef _

theorem plain_repF {g' : Gh} {nL nL' : Nat → Prop} {nT nT' : Nat} {d : D} {v : Value} (h : RepF c g nL nT w d v) (hp : d.plain = true) : RepF c g' nL' nT' w d v := by
  induction h with
  | undef v => cases hp
  | clean d v h => exact .clean d v (plain_rep d hp h)
  | lptr i off hi => cases hp
  | lsl i off len sz cap hi hc => cases hp
  | own i sz xs cap hi h ho he hb => cases hp
  | tight i sz v hi h => cases hp
  | fresh sz xs v h => cases hp
  | boxr sz xs v h => cases hp
  | agg ds vs hl h ih => exact .agg ds vs hl (fun i d hi => ih i d hi (plain_get hp hi))
  | tuple ds vs hl h ih => exact .tuple ds vs hl (fun i d hi => ih i d hi (plain_get hp hi))

theorem get_plainU : ∀ (ρ : Env) (t : Nat), get (ρ.map fun p => (p.1, p.2.plainU)) t = (get ρ t).plainU
  | [], t => rfl
  | (i, d) :: r, t => by
    simp only [List.map_cons, get]
    cases Nat.beq i t with
    | true => rfl
    | false => exact get_plainU r t

/-- At a call's end this frame's own boxes stay what they are. -/
theorem lend_gle {L : List (Option (List D))} {τ : List Bool} {B : List (List D)} (h : FS c g L τ B w) : Gle c g (dom L) τ.length w { g with s := lend g L w } (dom L) τ.length w :=
  ⟨⟨fun _ _ h => h, fun k _ => lend_le h k, fun _ _ _ _ hc => hc⟩, fun _ h => h, Nat.le_refl _, fun _ _ => rfl, fun _ _ => rfl, fun _ _ => rfl, fun _ _ => rfl, fun _ _ => rfl, Nat.le_refl _⟩

theorem FS.drop {L : List (Option (List D))} {τ : List Bool} {B : List (List D)} (h : FS c g L τ B w) : FS c { g with s := lend g L w } [] [] B w := by
  refine ⟨h.below, h.entry, h.baseLe, h.nB, h.pre, lend_zero h, fun k hk hb hm => ⟨(h.frame k hk hb hm).1, ?_⟩, h.os, h.tape, h.output, fun i ds hi => (by simp at hi), fun i hi => (by simp at hi), h.newB, h.old, h.mvS.gle (lend_gle h), fun i ds hi => (by simp at hi),
    fun i ds k hi hk => (h.boxB i ds k hi hk).mono (fun _ _ hr => hr.mono (lend_gle h).ev) (by
      show lend g L w k = g.s k
      rw [lend_box h i k hk, (h.boxB i ds k hi hk).1]) rfl, fun i hi => (by simp at hi), fun x y hx hy he => ?_⟩
  · show lend g L w k = c.s0 k
    unfold lend
    rw [if_neg]
    · exact (h.frame k hk hb hm).2
    · rintro ⟨j, ds, hj, he⟩
      rcases h.newL j ds hj with h1 | h1
      · omega
      · rw [he] at h1; exact hm h1
  cases x with
  | l i => obtain ⟨ds, hd⟩ := hx; simp at hd
  | t i => simp [live] at hx
  | b i =>
    cases y with
    | l i => obtain ⟨ds, hd⟩ := hy; simp at hd
    | t i => simp [live] at hy
    | b j => exact h.inj (.b i) (.b j) hx hy he

theorem get_mapF {F : D → D} (hF : F .undef = .undef) : ∀ (ρ : Env) (t : Nat), get (ρ.map fun p => (p.1, F p.2)) t = F (get ρ t)
  | [], t => hF.symm
  | (i, d) :: r, t => by
    simp only [List.map_cons, get]
    cases Nat.beq i t with
    | true => rfl
    | false => exact get_mapF hF r t

/-- All boxes of the frame's own are closed. -/
theorem settle_spec {nt : Nat} {st : St} {a : Act} (h : Inv c nt st a g w) : ∃ g', Inv c nt st.settle a g' w := by
  refine ⟨{ g with s := lend g st.L w }, ⟨h.fs.drop, fun t => ?_, h.size, h.defers⟩⟩
  show RepF _ _ _ _ _ (get (st.ρ.map fun p => (p.1, (st.borrow p.2).getD .undef)) t) _
  rw [get_mapF (F := fun d => (st.borrow d).getD .undef) rfl]
  have hr := h.env t
  cases hb : st.borrow (get st.ρ t) with
  | none => exact .undef _
  | some e => exact .clean _ _ (borrow_spec h.fs hb hr).1

/-- A row of the frame's own is a box of its own from now on. -/
theorem thaw_spec {nt : Nat} {st : St} {a : Act} (hmv : c.mv = []) (h : Inv c nt st a g w) (x : Nat) : ∃ g', Inv c nt (thawV x st) a g' w := by
  unfold thawV
  cases hx8 : Nat.beq x 9998 with
  | true => exact settle_spec h
  | false =>
  simp only [cond_false]
  split
  · rename_i x0 xs0 i hx
    split
    · rename_i hti
      cases hb : ((x0 :: xs0).all D.plain && (x0 :: xs0).all D.leaf && st.B.all fun ds => ds.all D.plain) with
      | false => exact ⟨g, h⟩
      | true =>
        simp only [cond_true]
        simp only [Bool.and_eq_true] at hb
        obtain ⟨⟨hxp, hxl⟩, hBp⟩ := hb
        have hr := h.env x
        rw [hx] at hr
        obtain ⟨hi, hrow, ⟨h0, _⟩ | ⟨how, cap, hv, hen, hbs⟩⟩ := hr.own_inv
        · cases h0
        have hne : (x0 :: xs0) ≠ [] := by simp
        generalize x0 :: xs0 = xs at hx hxp hxl hr hrow hv hen hbs hne ⊢
        rw [hv] at hrow
        obtain ⟨hs, cs, t, hh, hsz⟩ := h.fs.tok i hti how
        have hge := (h.fs.newT i hti how).resolve_right (fun hm => by rw [hmv] at hm; cases hm)
        have hlt := h.fs.lt (x := .t i) ⟨hti, how⟩
        have hnb : ∀ k, k ∈ g.bx → k ≠ g.tk i := fun k hk he => by
          obtain ⟨b, hb⟩ := List.getElem?_of_mem hk
          have := h.fs.inj (.b b) (.t i) (lt_of_get hb) ⟨hti, how⟩ ((bx_getD hb).trans he)
          cases this
        have hmap : ∀ (j : Nat) (ds : List D), (st.L.map (fun _ => (none : Option (List D))) ++ [some xs])[j]? = some (some ds) → j = st.L.length ∧ ds = xs := fun j ds hj => by
          rcases Nat.lt_trichotomy j st.L.length with hl | hl | hl
          · rw [List.getElem?_append_left (by simpa using hl), List.getElem?_map] at hj
            cases hq : st.L[j]? <;> rw [hq] at hj <;> simp at hj
          · subst hl
            rw [List.getElem?_append_right (by simp)] at hj
            simp at hj; exact ⟨rfl, hj.symm⟩
          · rw [List.getElem?_eq_none (by simp; omega)] at hj; cases hj
        have hnoT : ∀ j : Nat, (st.τ.map fun _ => false)[j]? = some true → False := fun j hj => by
          rw [List.getElem?_map] at hj
          cases hq : st.τ[j]? <;> rw [hq] at hj <;> simp at hj
        have hleaf : ∀ y, y ∈ xs → y.leaf = true := List.all_eq_true.1 hxl
        have hcx : cellsL xs = xs := cellsL_leaf hleaf
        refine ⟨{ g with loc := fun q => if q = st.L.length then g.tk i else g.loc q, s := fun k => if k = g.tk i then 0 else g.s k }, ⟨⟨h.fs.below, h.fs.entry, h.fs.baseLe, h.fs.nB, h.fs.pre, fun k hk => ?_, fun k hk hb hm => ?_, h.fs.os, h.fs.tape, h.fs.output,
          fun j ds hj => ?_, fun j hj => (hnoT j hj).elim, h.fs.newB, h.fs.old, fun k hk => (by rw [hmv] at hk; cases hk), fun j ds hj => ?_, fun j ds k hj hk => ?_, fun j hj => (hnoT j hj).elim, fun y z hy hz he => ?_⟩, fun t => ?_, h.size, h.defers⟩⟩
        · show (if k = g.tk i then 0 else g.s k) = 0
          split
          · rfl
          · exact h.fs.zero k hk
        · refine ⟨(h.fs.frame k hk hb hm).1, ?_⟩
          show (if k = g.tk i then 0 else g.s k) = _
          rw [if_neg (by omega)]; exact (h.fs.frame k hk hb hm).2
        · obtain ⟨rfl, _⟩ := hmap j ds hj
          refine .inl ?_
          show _ ≤ (if st.L.length = st.L.length then g.tk i else _)
          rw [if_pos rfl]; exact hge
        · obtain ⟨rfl, rfl⟩ := hmap j ds hj
          show BoxAt _ _ _ (if st.L.length = st.L.length then g.tk i else _) _
          rw [if_pos rfl]
          refine ⟨if_pos rfl, cs, t, (0, 0), hh, nofr_zero _, fun j d hj => ?_⟩
          cases hrow with
          | vec _ _ _ _ _ f hp hcap hok hcell hre hst =>
            rw [hcx] at hcell hre
            have h1 := hcell j d hj
            rw [add_plain, Nat.zero_add] at h1
            refine ⟨f j, ?_, .clean _ _ (plain_rep d (List.all_eq_true.1 hxp _ (List.mem_of_getElem? hj)) (hre j d hj))⟩
            simpa [World.cell?, hh] using h1
        · obtain ⟨b1, cs, t, fr, b2, b3, b4⟩ := h.fs.boxB j ds k hj hk
          refine ⟨?_, cs, t, fr, b2, b3, fun q e hq => ?_⟩
          · show (if k = g.tk i then 0 else g.s _) = 0
            split
            · rfl
            · exact b1
          · obtain ⟨u, hu, hr⟩ := b4 q e hq
            have h1 := List.all_eq_true.1 hBp _ (List.mem_of_getElem? hj)
            have h2 := List.all_eq_true.1 h1 _ (List.mem_of_getElem? hq)
            exact ⟨u, hu, plain_rep e h2 hr⟩
        · have hL : ∀ q, (∃ ds, (st.L.map (fun _ => (none : Option (List D))) ++ [some xs])[q]? = some (some ds)) → q = st.L.length := fun q ⟨ds, hd⟩ => (hmap q ds hd).1
          have hbm : ∀ q, q < g.bx.length → g.bx.getD q 0 ∈ g.bx := fun q hq => List.mem_of_getElem? (bx_get hq)
          cases y with
          | t q => exact (hnoT q hy.1).elim
          | l q =>
            obtain rfl := hL q hy
            cases z with
            | t p => exact (hnoT p hz.1).elim
            | l p => rw [hL p hz]
            | b p =>
              have he : (if st.L.length = st.L.length then g.tk i else _) = g.bx.getD p 0 := he
              rw [if_pos rfl] at he
              exact absurd he.symm (hnb _ (hbm p hz))
          | b q =>
            cases z with
            | t p => exact (hnoT p hz.1).elim
            | l p =>
              obtain rfl := hL p hz
              have he : g.bx.getD q 0 = (if st.L.length = st.L.length then g.tk i else _) := he
              rw [if_pos rfl] at he
              exact absurd he (hnb _ (hbm q hy))
            | b p => exact h.fs.inj (.b q) (.b p) hy hz he
        · show RepF _ _ _ _ _ (get ((x, _) :: _) t) _
          simp only [get]
          cases hbt : Nat.beq x t with
          | true =>
            simp only [cond_true]
            obtain rfl := Nat.eq_of_beq_eq_true hbt
            rw [hv]
            cases hrow with
            | vec _ _ _ _ _ f hp hcap hok hcell hre hst =>
              have h4 := RepF.lsl (c := c) (g := { g with loc := fun q => if q = st.L.length then g.tk i else g.loc q, s := fun k => if k = g.tk i then 0 else g.s k }) (nL := dom (st.L.map (fun _ => (none : Option (List D))) ++ [some xs])) (nT := (st.τ.map fun _ => false).length) (w := w) st.L.length 0 xs.length 1 cap ⟨xs, by
                rw [List.getElem?_append_right (by simp)]; simp⟩ hcap
              have e : (if st.L.length = st.L.length then g.tk i else g.loc st.L.length) = g.tk i := if_pos rfl
              simp only [e] at h4
              exact h4
          | false =>
            simp only [cond_false]
            rw [get_plainU]
            unfold D.plainU
            cases hp : (get st.ρ t).plain with
            | true => exact plain_repF (h.env t) hp
            | false => exact .undef _
    · exact ⟨g, h⟩
  · exact settle_spec h
  · exact ⟨g, h⟩

/-! ### Names anew -/
theorem memN_iff (i : Nat) : ∀ l : List Nat, memN i l = true ↔ i ∈ l
  | [] => by simp [memN]
  | x :: xs => by
    simp only [memN, List.mem_cons]
    cases h : Nat.beq x i with
    | true => simp only [cond_true, true_iff]; exact .inl (Nat.eq_of_beq_eq_true h).symm
    | false =>
      simp only [cond_false, memN_iff i xs]
      constructor
      · exact .inr
      · rintro (rfl | h2)
        · simp at h
        · exact h2

theorem sift_spec (ok : Nat → Bool) : ∀ (l acc : List Nat), acc.Nodup → (∀ i, i ∈ acc → ok i = true) → (sift ok acc l).Nodup ∧ ∀ i, i ∈ sift ok acc l → ok i = true
  | [], acc, h1, h2 => ⟨h1, h2⟩
  | i :: r, acc, h1, h2 => by
    simp only [sift]
    cases hb : (ok i && !memN i acc) with
    | false => exact sift_spec ok r acc h1 h2
    | true =>
      simp only [Bool.and_eq_true, Bool.not_eq_true'] at hb
      have hn : i ∉ acc := fun hm => by rw [(memN_iff i acc).2 hm] at hb; exact Bool.noConfusion hb.2
      refine sift_spec ok r (acc ++ [i]) (List.nodup_append.2 ⟨h1, by simp, fun a ha b hb he => ?_⟩) (fun j hj => ?_)
      · simp at hb; subst hb; subst he; exact hn ha
      · rcases List.mem_append.1 hj with hj | hj
        · exact h2 j hj
        · simp at hj; subst hj; exact hb.1

theorem posN_get (i : Nat) : ∀ (l : List Nat) (k j : Nat), posN i l k = some j → k ≤ j ∧ l[j - k]? = some i
  | [], k, j, h => by cases h
  | x :: xs, k, j, h => by
    simp only [posN] at h
    cases hb : Nat.beq x i with
    | true =>
      rw [hb] at h
      injection h with h; subst h
      exact ⟨Nat.le_refl _, by simp [Nat.eq_of_beq_eq_true hb]⟩
    | false =>
      rw [hb] at h
      obtain ⟨h1, h2⟩ := posN_get i xs (k + 1) j h
      exact ⟨by omega, by rw [show j - k = (j - (k + 1)) + 1 by omega, List.getElem?_cons_succ]; exact h2⟩

theorem nodup_get {l : List Nat} (h : l.Nodup) {i j x : Nat} (hi : l[i]? = some x) (hj : l[j]? = some x) : i = j := by
  have hi1 := lt_of_get hi
  have hj1 := lt_of_get hj
  exact (List.getElem?_inj hi1 h).1 (hi.trans hj.symm)

/-- The places of boxes and rows by their new names. -/
def Gh.named (g : Gh) (bs ts : List Nat) : Gh :=
  { g with loc := fun j => g.loc (bs.getD j 0), tk := fun j => g.tk (ts.getD j 0), en := fun j => g.en (ts.getD j 0), bs := fun j => g.bs (ts.getD j 0), ow := fun j => g.ow (ts.getD j 0) }

theorem getD_of {l : List Nat} {i k : Nat} (h : l[i]? = some k) : l.getD i 0 = k := bx_getD h

theorem ren1_spec {nL nL' : Nat → Prop} {nT : Nat} {bs ts : List Nat} (hL : ∀ j : Nat, j < bs.length → nL' j) {d : D} {v : Value} (h : RepF c g nL nT w d v) : RepF c (g.named bs ts) nL' ts.length w (d.ren1 bs ts) v := by
  cases h with
  | undef v => exact .undef _
  | clean d v h =>
    cases h with
    | agg _ _ _ _ => exact .undef _
    | nilv sz p hp => rcases hp with rfl | rfl <;> exact .clean _ _ (.nilv _ _ (by simp))
    | vec sz xs p a cap vs hp hcap hsz hc hr hs => rcases hp with rfl | ⟨rfl, rfl⟩ | rfl <;> exact .clean _ _ (by constructor <;> first | assumption | exact .inl rfl | exact .inr (.inl ⟨rfl, rfl⟩) | exact .inr (.inr rfl))
    | _ => exact .clean _ _ (by constructor <;> assumption)
  | lptr i off hi =>
    simp only [D.ren1]
    split
    · rename_i j hj
      have := (posN_get i bs 0 j hj).2
      rw [Nat.sub_zero] at this
      have e : (g.named bs ts).loc j = g.loc i := by simp only [Gh.named, getD_of this]
      rw [← e]; exact .lptr j off (hL j (lt_of_get this))
    · exact .undef _
  | lsl i off len sz cap hi hc =>
    simp only [D.ren1]
    split
    · rename_i j hj
      have := (posN_get i bs 0 j hj).2
      rw [Nat.sub_zero] at this
      have e : (g.named bs ts).loc j = g.loc i := by simp only [Gh.named, getD_of this]
      rw [← e]; exact .lsl j off len sz cap (hL j (lt_of_get this)) hc
    · exact .undef _
  | own i sz xs cap hi h ho he hb =>
    simp only [D.ren1]
    split
    · rename_i j hj
      have := (posN_get i ts 0 j hj).2
      rw [Nat.sub_zero] at this
      have e : (g.named bs ts).tk j = g.tk i := by simp only [Gh.named, getD_of this]
      rw [← e] at h ⊢
      exact .own j sz xs cap (lt_of_get this) h (by simp only [Gh.named, getD_of this]; exact ho) (by simp only [Gh.named, getD_of this]; exact he) (by simp only [Gh.named, getD_of this]; exact hb)
    · exact .clean _ _ h
  | tight i sz v hi h =>
    simp only [D.ren1]
    split
    · rename_i j hj
      have := (posN_get i ts 0 j hj).2
      rw [Nat.sub_zero] at this
      exact .tight j sz v (lt_of_get this) h
    · exact .clean _ _ h.to_none
  | fresh sz xs v h => exact .fresh _ _ _ h
  | boxr sz xs v h => exact .boxr _ _ _ h
  | agg ds vs hl h => exact .undef _
  | tuple ds vs hl h => exact .undef _

theorem renL_get {bs ts : List Nat} : ∀ (ds : List D) (i : Nat), (renL bs ts ds)[i]? = (ds[i]?).map (D.ren1 bs ts)
  | [], i => by simp [renL]
  | d :: ds, 0 => by simp [renL]
  | d :: ds, i + 1 => by simp only [renL, List.getElem?_cons_succ]; exact renL_get ds i

theorem renL_length {bs ts : List Nat} : ∀ (ds : List D), (renL bs ts ds).length = ds.length
  | [] => rfl
  | d :: ds => by simp [renL, renL_length ds]

theorem ren_spec {nL nL' : Nat → Prop} {nT : Nat} {bs ts : List Nat} (hL : ∀ j : Nat, j < bs.length → nL' j) {d : D} {v : Value} (h : RepF c g nL nT w d v) : RepF c (g.named bs ts) nL' ts.length w (d.ren bs ts) v := by
  cases d with
  | agg ds =>
    obtain ⟨vs, rfl, hl, hr⟩ := h.agg_inv
    refine .agg _ _ (by rw [renL_length]; exact hl) (fun i e hi => ?_)
    rw [renL_get] at hi
    cases hq : ds[i]? with
    | none => rw [hq] at hi; cases hi
    | some y => rw [hq] at hi; injection hi with hi; subst hi; exact ren1_spec hL (hr i y hq)
  | _ => exact ren1_spec hL h

theorem get_renE {bs ts : List Nat} : ∀ (ρ : Env) (t : Nat), get (renE bs ts ρ) t = (get ρ t).ren bs ts
  | [], t => rfl
  | (i, d) :: r, t => by
    simp only [renE, get]
    cases Nat.beq i t with
    | true => rfl
    | false => exact get_renE r t

theorem renB_get {st : St} {bs ts : List Nat} : ∀ (l : List Nat) (j : Nat), (renB st bs ts l)[j]? = (l[j]?).map fun i => some (renL bs ts (st.content i))
  | [], j => by simp [renB]
  | i :: r, 0 => by simp [renB]
  | i :: r, j + 1 => by simp only [renB, List.getElem?_cons_succ]; exact renB_get r j

theorem trues_length : ∀ l : List Nat, (trues l).length = l.length
  | [] => rfl
  | _ :: r => by simp [trues, trues_length r]

theorem tidy_spec {nt : Nat} {st : St} {a : Act} (h : Inv c nt st a g w) : ∃ g', Inv c nt (tidyV st) a g' w := by
  obtain ⟨nb1, nb2⟩ := sift_spec st.boxOk (envBoxes st.ρ) [] List.nodup_nil (fun i hi => by cases hi)
  obtain ⟨nt1, nt2⟩ := sift_spec st.tokOk (envToks st.ρ ++ conToks st (tidyB st)) [] List.nodup_nil (fun i hi => by cases hi)
  change (tidyB st).Nodup at nb1
  change ∀ i, i ∈ tidyB st → _ at nb2
  change (tidyT st).Nodup at nt1
  change ∀ i, i ∈ tidyT st → _ at nt2
  unfold tidyV
  generalize tidyB st = bs at nb1 nb2
  generalize tidyT st = ts at nt1 nt2
  have hbx : ∀ i, i ∈ bs → st.L[i]? = some (some (st.content i)) := fun i hi => by
    have := nb2 i hi
    unfold St.boxOk at this
    unfold St.content
    split at this
    · rename_i ds hds; rw [hds]
    · cases this
  have htk : ∀ i, i ∈ ts → st.τ[i]? = some true := fun i hi => by
    have := nt2 i hi
    unfold St.tokOk at this
    split at this
    · rename_i b hb; rw [hb, this]
    · cases this
  have hL : ∀ j : Nat, j < bs.length → dom (renB st bs ts bs) j := fun j hj => by
    refine ⟨renL bs ts (st.content bs[j]), ?_⟩
    rw [renB_get, List.getElem?_eq_getElem hj]; rfl
  have hlen : (tidyW st bs ts).τ.length = ts.length := trues_length ts
  have hbox : ∀ (j : Nat) (ds : List D), (renB st bs ts bs)[j]? = some (some ds) → ∃ i, bs[j]? = some i ∧ ds = renL bs ts (st.content i) ∧ st.L[i]? = some (some (st.content i)) := fun j ds hj => by
    rw [renB_get] at hj
    cases hq : bs[j]? with
    | none => rw [hq] at hj; cases hj
    | some i =>
      rw [hq] at hj
      injection hj with hj; injection hj with hj
      exact ⟨i, rfl, hj.symm, hbx i (List.mem_of_getElem? hq)⟩
  have htok : ∀ j : Nat, (trues ts)[j]? = some true → ∃ i, ts[j]? = some i ∧ st.τ[i]? = some true := fun j hj => by
    have hlt := lt_of_get hj
    rw [trues_length] at hlt
    exact ⟨ts[j], List.getElem?_eq_getElem hlt, htk _ (List.getElem_mem hlt)⟩
  refine ⟨g.named bs ts, ⟨⟨h.fs.below, h.fs.entry, h.fs.baseLe, h.fs.nB, h.fs.pre, h.fs.zero, h.fs.frame, h.fs.os, h.fs.tape, h.fs.output, fun j ds hj => ?_, fun j hj hw => ?_, h.fs.newB, h.fs.old, h.fs.mvS,
    fun j ds hj => ?_, h.fs.boxB, fun j hj hw => ?_, fun x y hx hy he => ?_⟩, fun t => ?_, h.size, h.defers⟩⟩
  · obtain ⟨i, h1, rfl, h2⟩ := hbox j ds hj
    have e : (g.named bs ts).loc j = g.loc i := by simp only [Gh.named, getD_of h1]
    rw [e]; exact h.fs.newL i _ h2
  · obtain ⟨i, h1, h2⟩ := htok j hj
    have e : (g.named bs ts).tk j = g.tk i := by simp only [Gh.named, getD_of h1]
    have e2 : (g.named bs ts).ow j = g.ow i := by simp only [Gh.named, getD_of h1]
    rw [e]; exact h.fs.newT i h2 (e2 ▸ hw)
  · obtain ⟨i, h1, rfl, h2⟩ := hbox j ds hj
    have e : (g.named bs ts).loc j = g.loc i := by simp only [Gh.named, getD_of h1]
    rw [e]
    obtain ⟨b1, cs, t, fr, b2, b3, b4⟩ := h.fs.boxL i _ h2
    refine ⟨b1, cs, t, fr, b2, b3, fun q d hq => ?_⟩
    rw [renL_get] at hq
    cases hd : (st.content i)[q]? with
    | none => rw [hd] at hq; cases hq
    | some y =>
      rw [hd] at hq
      injection hq with hq; subst hq
      obtain ⟨v, hv, hr⟩ := b4 q y hd
      refine ⟨v, hv, ?_⟩
      show RepF c (g.named bs ts) (dom (renB st bs ts bs)) (trues ts).length w _ _
      rw [trues_length]
      exact ren1_spec hL hr
  · obtain ⟨i, h1, h2⟩ := htok j hj
    have e : (g.named bs ts).tk j = g.tk i := by simp only [Gh.named, getD_of h1]
    have e2 : (g.named bs ts).ow j = g.ow i := by simp only [Gh.named, getD_of h1]
    have e3 : (g.named bs ts).en j = g.en i := by simp only [Gh.named, getD_of h1]
    have e4 : (g.named bs ts).bs j = g.bs i := by simp only [Gh.named, getD_of h1]
    rw [e, e3, e4]
    exact h.fs.tok i h2 (e2 ▸ hw)
  · have hold : ∀ x, live (g.named bs ts) (renB st bs ts bs) (trues ts) x → ∃ x', live g st.L st.τ x' ∧ blk (g.named bs ts) x = blk g x' ∧ (match x, x' with
        | .l j, .l i => bs[j]? = some i
        | .t j, .t i => ts[j]? = some i
        | .b j, .b i => j = i
        | _, _ => False) := fun x hx => by
      cases x with
      | l j =>
        obtain ⟨ds, hd⟩ := hx
        obtain ⟨i, h1, _, h2⟩ := hbox j ds hd
        exact ⟨.l i, ⟨_, h2⟩, by simp only [blk, Gh.named, getD_of h1], h1⟩
      | t j =>
        obtain ⟨i, h1, h2⟩ := htok j hx.1
        have e2 : (g.named bs ts).ow j = g.ow i := by simp only [Gh.named, getD_of h1]
        exact ⟨.t i, ⟨h2, e2 ▸ hx.2⟩, by simp only [blk, Gh.named, getD_of h1], h1⟩
      | b j => exact ⟨.b j, hx, rfl, rfl⟩
    obtain ⟨x', a1, a2, a3⟩ := hold x hx
    obtain ⟨y', b1, b2, b3⟩ := hold y hy
    rw [a2, b2] at he
    have := h.fs.inj x' y' a1 b1 he
    subst this
    cases x <;> cases x' <;> first | exact a3.elim | (cases y <;> first | exact b3.elim | skip)
    · rw [nodup_get nb1 a3 b3]
    · rw [nodup_get nt1 a3 b3]
    · exact congrArg Nm.b (Eq.trans a3 (Eq.symm b3))
  · show RepF c (g.named bs ts) (dom (renB st bs ts bs)) (trues ts).length w (get (renE bs ts st.ρ) t) _
    rw [get_renE, trues_length]
    exact ren_spec hL (h.env t)

/-- A row is turned into a box only where none was handed in. -/
def ThawOk (c : Cx) (an : An) : Prop := c.mv = [] ∨ ∀ i, an.thaw i = .none

theorem Inv.at_ {nt : Nat} {st : St} {a : Act} (h : Inv c nt st a g w) (an : An) (id : Option Nat) : ∃ g', Inv c nt (an.at_ id st) a g' w := by
  cases id with
  | none => exact ⟨g, h⟩
  | some i =>
    unfold An.at_
    simp only []
    split
    · rename_i l hl
      exact tidy_spec (st := { st with ρ := prune (some l) st.ρ }) ⟨h.fs, env_prune h.env (some l), h.size, h.defers⟩
    · exact ⟨g, h⟩

theorem Inv.mid {nt : Nat} {st : St} {a : Act} (h : Inv c nt st a g w) {an : An} (ht : ThawOk c an) (id : Nat) : ∃ g', Inv c nt (an.mid id st) a g' w := by
  unfold An.mid
  split
  · rename_i x l hx
    rcases ht with ht | ht
    · exact thaw_spec ht (st := { st with ρ := prune (some l) st.ρ }) ⟨h.fs, env_prune h.env (some l), h.size, h.defers⟩ _
    · rw [ht id] at hx; cases hx
  · exact ⟨g, h⟩

def X.toExit : X → Exit
  | .norm => .normal
  | .exit i => .exit i
  | .ret => .ret

/-- Of regions whose order is drawn. -/
def DrawOK (c : Cx) (T : Tab) (C : Callees) : Prop :=
  ∀ (flip : Nat → Nat) (nt : Nat) (id : Nat) (ops : Array Oper) (dyn : Bool) (st st' : St) (a : Act) (g : Gh) (w : World) (Q : Exit → Act → World → Prop),
    regionV T flip C ops.toList true dyn st = some st' → Inv c nt st a g w → ops.toList.all (dstOk nt) = true → apartAll ops.toList = true → (dyn || calmAll flip ops.toList) = true →
    (∀ g' a' w', Inv c nt st' a' g' w' → Q .normal a' w') → (Code.region id ops true).wp c.P Q a w

theorem code_spec {T : Tab} (hT : TabOk c.P T) {C : Callees} (hC : CallOK c C) (hD : DrawOK c T C) {an : An} (htw : ThawOk c an) {nt : Nat} : ∀ (code : Code) {st st' : St} {x : X} {a : Act} {g : Gh} {w : World} {Q : Exit → Act → World → Prop},
    codeV T an C code st = some (x, st') → Inv c nt st a g w → codeOk an nt code = true → (∀ g' a' w', Inv c nt st' a' g' w' → Q x.toExit a' w') → code.wp c.P Q a w := by
  intro code
  induction code with
  | skip =>
    intro st st' x a g w Q h hi _ hq
    simp only [codeV] at h
    injection h with h; injection h with h1 h2; subst h1; subst h2
    exact wp_skip (hq g a w hi)
  | region id ops draw =>
    intro st st' x a g w Q h hi hd hq
    simp only [codeOk, Bool.and_eq_true, Bool.or_eq_true, Bool.not_eq_true'] at hd
    obtain ⟨hd, hap⟩ := hd
    simp only [codeV] at h
    split at h
    · rename_i st2 hr
      injection h with h; injection h with h1 h2; subst h1; subst h2
      obtain ⟨g, hi⟩ := hi.mid htw id
      cases draw with
      | true => exact hD an.flip nt id ops (an.dyn id) _ _ a g w Q hr hi hd (hap.resolve_left (by simp)).1 (by have := (hap.resolve_left (by simp)).2; simpa using this) hq
      | false =>
        have := ops_spec (Q := Q) hT hC ops.toList (by simpa only [regionV, CC, cond_false, Bool.false_and] using hr) hi hd hq
        exact wp_region_list (by simpa using this)
    · cases h
  | seq x y ihx ihy =>
    intro st st' e a g w Q h hi hd hq
    simp only [codeOk, Bool.and_eq_true] at hd
    simp only [codeV] at h
    apply wp_seq
    split at h
    · rename_i st1 h1
      exact ihx h1 hi hd.1 (fun g' a' w' hi' => ihy h hi' hd.2 hq)
    · rename_i hne
      refine ihx h hi hd.1 (fun g' a' w' hi' => ?_)
      have hx : e ≠ .norm := fun he => by subst he; exact hne st' h
      have := hq g' a' w' hi'
      cases e with
      | norm => exact absurd rfl hx
      | _ => exact this
  | cond c' x y ihx ihy =>
    intro st st' e a g w Q h hi hd hq
    simp only [codeOk, Bool.and_eq_true] at hd
    simp only [codeV] at h
    split at h
    · rename_i t ht
      have hr := hi.env.eval c'
      rw [ht] at hr
      refine wp_cond hr.bool_inv ?_
      cases t with
      | true => exact ihx h hi hd.1 hq
      | false => exact ihy h hi hd.2 hq
    · cases h
  | block id c' ih =>
    intro st st' e a g w Q h hi hd hq
    simp only [codeOk] at hd
    simp only [codeV] at h
    apply wp_block
    split at h
    · rename_i i st1 h1
      refine ih h1 hi hd (fun g' a' w' hi' => ?_)
      show (if i = id then Q .normal a' w' else Q (.exit i) a' w')
      cases hb : Nat.beq i id with
      | true =>
        rw [hb] at h
        simp only [cond_true] at h
        injection h with h; injection h with h1 h2; subst h1; subst h2
        rw [if_pos (Nat.eq_of_beq_eq_true hb)]
        exact hq g' a' w' hi'
      | false =>
        rw [hb] at h
        simp only [cond_false] at h
        injection h with h; injection h with h1 h2; subst h1; subst h2
        rw [if_neg (fun he => by subst he; simp at hb)]
        exact hq g' a' w' hi'
    · rename_i hne
      refine ih h hi hd (fun g' a' w' hi' => ?_)
      have := hq g' a' w' hi'
      cases e with
      | exit i => exact absurd h (hne i st')
      | _ => exact this
  | loop c' ih =>
    intro st st' e a g w Q h hi hd hq
    simp only [codeOk] at hd
    simp only [codeV] at h
    obtain ⟨n, h⟩ := (loopW_iff _ _ _).1 h
    refine wp_loop_rounds n ?_
    have key : ∀ m {st : St} {a : Act} {g : Gh} {w : World}, loopV (fun s => codeV T an C c' (an.at_ (firstOf c') s)) m st = some (e, st') → Inv c nt st a g w → Code.rounds c.P c' Q m a w := by
      intro m
      induction m with
      | zero => intro st a g w h _; cases h
      | succ m ihm =>
        intro st a g w h hi
        simp only [loopV] at h
        rw [rounds_succ]
        obtain ⟨g, hi⟩ := hi.at_ an (firstOf c')
        split at h
        · rename_i st1 h1
          exact ih h1 hi hd (fun g' a' w' hi' => ihm h hi')
        · rename_i hne
          refine ih h hi hd (fun g' a' w' hi' => ?_)
          have hx : e ≠ .norm := fun he => by subst he; exact hne st' h
          have := hq g' a' w' hi'
          cases e with
          | norm => exact absurd rfl hx
          | _ => exact this
    exact key n h hi
  | exit id =>
    intro st st' x a g w Q h hi _ hq
    simp only [codeV] at h
    injection h with h; injection h with h1 h2; subst h1; subst h2
    exact wp_exit (hq g a w hi)
  | ret =>
    intro st st' x a g w Q h hi _ hq
    simp only [codeV] at h
    injection h with h; injection h with h1 h2; subst h1; subst h2
    exact wp_ret (hq g a w hi)
  | _ => intro st st' x a g w Q h; simp [codeV] at h

end Go.Proofs.YtbbbhalmlboapaaDoor.V
