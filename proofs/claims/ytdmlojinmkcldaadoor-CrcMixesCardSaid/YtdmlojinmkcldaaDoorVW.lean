/-
Regions whose order is not drawn; code.
-/
import Derived.Test.YtdmlojinmkcldaaDoorVV
import Derived.LoopN
import Derived.Orders
namespace Go.Proofs.YtdmlojinmkcldaaDoor.V
set_option linter.unusedSimpArgs false
set_option linter.unusedVariables false
open Go Go.RowKit

variable {c : Cx} {g : Gh} {w : World}

/-- What stands where the code stands. -/
structure Inv (c : Cx) (nt : Nat) (st : St) (a : Act) (g : Gh) (w : World) : Prop where
  fs : FS c g st.L st.τ st.B w
  env : EnvR c g (dom st.L) st.τ.length w st.ρ a
  size : a.tmps.size = nt
  defers : a.defers = []

def dstOk (n : Nat) (o : Oper) : Bool :=
  match o.dst with
  | some t => Nat.blt t n
  | .none => true

def backOk : List Oper → Nat → Bool
  | [], _ => true
  | o :: r, i => (o.after.toList.all fun e => !(Region.binds .any e) || Nat.blt e.on i) && backOk r (i + 1)

/-- Operations of which neither comes ahead of the other one have nothing to do with one another's slots; and what comes ahead stands ahead. -/
def apartAll (ops : List Oper) : Bool := backOk ops 0 && allPairs (fun x y => x.apart ops.toArray y) ops ops (ancM ops) 0

/-- Nor with one another's boxes, by their text. -/
def calmAll (flip : Nat → Bool) (ops : List Oper) : Bool := allPairs (calm flip) ops ops (ancM ops) 0

def codeOk (an : An) (n : Nat) : Code → Bool
  | .region id ops draw => ops.toList.all (dstOk n) && (!draw || (apartAll ops.toList && (an.dyn id || calmAll an.flip ops.toList)))
  | .seq a b => codeOk an n a && codeOk an n b
  | .cond _ a b => codeOk an n a && codeOk an n b
  | .block _ c => codeOk an n c
  | .loop c => codeOk an n c
  | _ => true

theorem Nat.blt_lt {a b : Nat} (h : Nat.blt a b = true) : a < b := Nat.le_of_ble_eq_true h

theorem get_put_self (ρ : Env) (t : Nat) (d : D) : get (put ρ (some t) d) t = d := by
  simp [put, get]

theorem get_put_ne (ρ : Env) (t u : Nat) (d : D) (h : t ≠ u) : get (put ρ (some t) d) u = get ρ u := by
  have : Nat.beq t u = false := by
    cases hb : Nat.beq t u
    · rfl
    · exact absurd (Nat.eq_of_beq_eq_true hb) h
  simp [put, get, this]

theorem env_put {nL : Nat → Prop} {nT n : Nat} {ρ : Env} {a : Act} {o : Oper} {d : D} {v : Value} (he : EnvR c g nL nT w ρ a) (hn : a.tmps.size = n) (ho : dstOk n o = true) (hr : RepF c g nL nT w d v) : EnvR c g nL nT w (put ρ o.dst d) (a.put o.dst v) := by
  unfold dstOk at ho
  cases hd : o.dst with
  | none => exact he
  | some t =>
    rw [hd] at ho
    have hlt := Nat.blt_lt ho
    intro u
    by_cases htu : t = u
    · subst htu
      rw [get_put_self]
      have : (a.put (some t) v).tmps.getD t Go.undef = v := by simp [Act.put, Array.getD_eq_getD_getElem?, Array.getElem?_setIfInBounds, hn, hlt]
      rw [this]; exact hr
    · rw [get_put_ne _ _ _ _ htu]
      have : (a.put (some t) v).tmps.getD u Go.undef = a.tmps.getD u Go.undef := by simp [Act.put, Array.getD_eq_getD_getElem?, Array.getElem?_setIfInBounds_ne htu]
      rw [this]; exact he u

theorem put_size (a : Act) (dst : Option Tmp) (v : Value) : (a.put dst v).tmps.size = a.tmps.size := by cases dst <;> simp [Act.put]
theorem put_defers (a : Act) (dst : Option Tmp) (v : Value) : (a.put dst v).defers = a.defers := by cases dst <;> rfl

theorem wanted_of {nL : Nat → Prop} {nT : Nat} {ρ : Env} {a : Act} {ops : List Oper} {o : Oper} {b : Bool} (he : EnvR c g nL nT w ρ a) (h : wantedV ρ ops o = some b) : Region.wanted o (yielded ops.toArray a.tmps) = b := by
  unfold wantedV at h
  unfold Region.wanted
  split at h
  · injection h with h; subst h; rename_i hg; rw [hg]
  · rename_i j want hg
    rw [hg]
    split at h
    · rename_i o' ho'
      split at h
      · rename_i t ht
        have hr := he t
        have hop : (ops.toArray[j]?).bind (·.dst) = some t := by simp [ho', ht]
        split at h
        · rename_i b' hb'
          injection h with h; subst h
          rw [hb'] at hr
          have hv := hr.bool_inv
          have hy : yielded ops.toArray a.tmps j = some b' := by
            unfold yielded
            rw [hop]
            have : a.tmps[t]? = some (.bool b') := by
              rw [Array.getD_eq_getD_getElem?] at hv
              cases ht : a.tmps[t]? with
              | none => rw [ht] at hv; simp [Go.undef] at hv
              | some x => rw [ht] at hv; simp at hv; rw [hv]
            simp [this]
          simp [hy]
        · rename_i hb'
          injection h with h; subst h
          rw [hb'] at hr
          obtain ⟨vs, hv, _⟩ := hr.tuple_inv
          have hy : yielded ops.toArray a.tmps j = none := by
            unfold yielded
            rw [hop]
            cases ht : a.tmps[t]? with
            | none => simp [ht]
            | some x =>
              rw [Array.getD_eq_getD_getElem?, ht] at hv
              simp at hv
              subst hv
              simp [ht]
          simp [hy]
        · cases h
      · cases h
    · cases h

theorem inv_put {nt : Nat} {st st' : St} {a : Act} {o : Oper} {d : D} {v : Value} {w' : World} {g' : Gh} (h : Inv c nt st a g w) (ho : dstOk nt o = true) (hf : FS c g' st'.L st'.τ st'.B w') (hg : Gle c g (dom st.L) st.τ.length w g' (dom st'.L) st'.τ.length w')
    (hr : RepF c g' (dom st'.L) st'.τ.length w' d v) : Inv c nt { st' with ρ := put st.ρ o.dst d } (a.put o.dst v) g' w' :=
  ⟨hf, env_put (h.env.mono hg) h.size ho hr, by rw [put_size]; exact h.size, by rw [put_defers]; exact h.defers⟩

theorem ops_spec {T : Tab} (hT : TabOk c.P T) {C : Callees} (hC : CallOK c C) {flip : Nat → Bool} {nt : Nat} {ops : List Oper} {Q : Exit → Act → World → Prop} : ∀ (rest : List Oper) {st st' : St} {a : Act} {g : Gh} {w : World},
    opsV T flip C ops rest st = some st' → Inv c nt st a g w → rest.all (dstOk nt) = true → (∀ g' a' w', Inv c nt st' a' g' w' → Q .normal a' w') → wpList c.P ops.toArray Q rest a w
  | [], st, st', a, g, w, h, hi, _, hq => by
    simp [opsV] at h; subst h
    exact wpList_nil (hq g a w hi)
  | o :: rest, st, st', a, g, w, h, hi, hd, hq => by
    simp only [List.all_cons, Bool.and_eq_true] at hd
    simp only [opsV] at h
    split at h
    · rename_i hw
      have hwant := wanted_of hi.env hw
      split at h
      · rename_i d st1 ho
        simp only [wpList, hwant, if_true]
        refine .inl (op_all hT hC hi.fs hi.env ho _ Q (fun v w' g' h1 h2 h3 => ?_))
        exact ops_spec hT hC rest h (inv_put hi hd.1 h1 h2 h3) hd.2 hq
      · cases h
    · rename_i hw
      have hwant := wanted_of hi.env hw
      simp only [wpList, hwant]
      refine ops_spec hT hC rest h (inv_put hi hd.1 hi.fs (Gle.refl _ _ _ _ _) ?_) hd.2 hq
      exact .tuple [] #[] rfl (fun i d hi => by simp at hi)
    · cases h

theorem get_map (ρ : Env) (t : Nat) : ∀ (l : List Nat), get (l.map fun t => (t, get ρ t)) t = get ρ t ∨ get (l.map fun t => (t, get ρ t)) t = .undef
  | [] => .inr rfl
  | x :: l => by
    simp only [List.map_cons, get]
    cases hb : Nat.beq x t with
    | true => simp only [cond_true]; rw [Nat.eq_of_beq_eq_true hb]; exact .inl rfl
    | false => simp only [cond_false]; exact get_map ρ t l

theorem env_prune {nL : Nat → Prop} {nT : Nat} {ρ : Env} {a : Act} (he : EnvR c g nL nT w ρ a) (keep : Option (List Nat)) : EnvR c g nL nT w (prune keep ρ) a := fun t => by
  cases keep with
  | none => exact he t
  | some l =>
    rcases get_map ρ t l with h | h
    · show RepF _ _ _ _ _ (get _ t) _
      simp only [prune]; rw [h]; exact he t
    · show RepF _ _ _ _ _ (get _ t) _
      simp only [prune]; rw [h]; exact .undef _

theorem plain_repF {g' : Gh} {nL nL' : Nat → Prop} {nT nT' : Nat} {d : D} {v : Value} (h : RepF c g nL nT w d v) (hp : d.plain = true) : RepF c g' nL' nT' w d v := by
  induction h with
  | undef v => cases hp
  | clean d v h => exact .clean d v (plain_rep d hp h)
  | lptr i off hi => cases hp
  | lsl i off len sz cap hi hc => cases hp
  | own i sz xs cap hi h he hb => cases hp
  | agg ds vs hl h ih => exact .agg ds vs hl (fun i d hi => ih i d hi (plain_get hp hi))
  | tuple ds vs hl h ih => exact .tuple ds vs hl (fun i d hi => ih i d hi (plain_get hp hi))

theorem get_plainU : ∀ (ρ : Env) (t : Nat), get (ρ.map fun p => (p.1, p.2.plainU)) t = (get ρ t).plainU
  | [], t => rfl
  | (i, d) :: r, t => by
    simp only [List.map_cons, get]
    cases Nat.beq i t with
    | true => rfl
    | false => exact get_plainU r t

/-- A row of the frame's own is a box of its own from now on. -/
theorem thaw_spec {nt : Nat} {st : St} {a : Act} (h : Inv c nt st a g w) (x : Nat) : ∃ g', Inv c nt (thawV x st) a g' w := by
  unfold thawV
  split
  · rename_i xs i hx
    split
    · rename_i hti
      cases hb : (xs.all D.plain && xs.all D.leaf && st.B.all fun ds => ds.all D.plain) with
      | false => exact ⟨g, h⟩
      | true =>
        simp only [cond_true]
        simp only [Bool.and_eq_true] at hb
        obtain ⟨⟨hxp, hxl⟩, hBp⟩ := hb
        have hr := h.env x
        rw [hx] at hr
        obtain ⟨cap, hv, hi, hrow, hen, hbs⟩ := hr.own_inv
        rw [hv] at hrow
        obtain ⟨hs, cs, t, hh, hsz⟩ := h.fs.tok i hti
        have hge := h.fs.newT i hti
        have hlt := h.fs.lt (x := .t i) hti
        have hnb : ∀ b, b < st.B.length → c.bx b ≠ g.tk i := fun b hb he => by
          have := h.fs.inj (.b b) (.t i) hb hti he
          cases this
        have hmap : ∀ (j : Nat) (ds : List D), (st.L.map (fun _ => (none : Option (List D))) ++ [some xs])[j]? = some (some ds) → j = st.L.length ∧ ds = xs := fun j ds hj => by
          rcases Nat.lt_trichotomy j st.L.length with hl | hl | hl
          · rw [List.getElem?_append_left (by simpa using hl), List.getElem?_map] at hj
            cases hq : st.L[j]? <;> rw [hq] at hj <;> simp at hj
          · subst hl
            rw [List.getElem?_append_right (by simp)] at hj
            simp at hj; exact ⟨rfl, hj.symm⟩
          · rw [List.getElem?_eq_none (by simp; omega)] at hj; cases hj
        have hnoT : ∀ j : Nat, (st.τ.map fun _ => false)[j]? = some true → False := fun j hj => by
          rw [List.getElem?_map] at hj
          cases hq : st.τ[j]? <;> rw [hq] at hj <;> simp at hj
        have hleaf : ∀ y, y ∈ xs → y.leaf = true := List.all_eq_true.1 hxl
        have hcx : cellsL xs = xs := cellsL_leaf hleaf
        refine ⟨{ g with loc := fun q => if q = st.L.length then g.tk i else g.loc q, s := fun k => if k = g.tk i then 0 else g.s k }, ⟨⟨h.fs.below, h.fs.entry, h.fs.baseLe, h.fs.nB, fun k hk => ?_, fun k hk hb => ?_, h.fs.os, h.fs.tape, h.fs.output,
          fun j ds hj => ?_, fun j hj => (hnoT j hj).elim, h.fs.newB, fun j ds hj => ?_, fun j ds hj => ?_, fun j hj => (hnoT j hj).elim, fun y z hy hz he => ?_⟩, fun t => ?_, h.size, h.defers⟩⟩
        · show (if k = g.tk i then 0 else g.s k) = 0
          split
          · rfl
          · exact h.fs.zero k hk
        · refine ⟨(h.fs.frame k hk hb).1, ?_⟩
          show (if k = g.tk i then 0 else g.s k) = _
          rw [if_neg (by omega)]; exact (h.fs.frame k hk hb).2
        · obtain ⟨rfl, _⟩ := hmap j ds hj
          show _ ≤ (if st.L.length = st.L.length then g.tk i else _)
          rw [if_pos rfl]; exact hge
        · obtain ⟨rfl, rfl⟩ := hmap j ds hj
          show BoxAt _ _ _ (if st.L.length = st.L.length then g.tk i else _) _
          rw [if_pos rfl]
          refine ⟨if_pos rfl, cs, t, (0, 0), hh, nofr_zero _, fun j d hj => ?_⟩
          cases hrow with
          | vec _ _ _ _ _ f hp hcap hok hcell hre hst =>
            rw [hcx] at hcell hre
            have h1 := hcell j d hj
            rw [add_plain, Nat.zero_add] at h1
            refine ⟨f j, ?_, .clean _ _ (plain_rep d (List.all_eq_true.1 hxp _ (List.mem_of_getElem? hj)) (hre j d hj))⟩
            simpa [World.cell?, hh] using h1
        · obtain ⟨b1, cs, t, fr, b2, b3, b4⟩ := h.fs.boxB j ds hj
          refine ⟨?_, cs, t, fr, b2, b3, fun q e hq => ?_⟩
          · show (if c.bx j = g.tk i then 0 else g.s _) = 0
            split
            · rfl
            · exact b1
          · obtain ⟨u, hu, hr⟩ := b4 q e hq
            have h1 := List.all_eq_true.1 hBp _ (List.mem_of_getElem? hj)
            have h2 := List.all_eq_true.1 h1 _ (List.mem_of_getElem? hq)
            exact ⟨u, hu, plain_rep e h2 hr⟩
        · have hL : ∀ q, live (st.L.map (fun _ => (none : Option (List D))) ++ [some xs]) (st.τ.map fun _ => false) st.B (.l q) → q = st.L.length := fun q hq => by
            obtain ⟨ds, hd⟩ := hq; exact (hmap q ds hd).1
          cases y with
          | t q => exact (hnoT q hy).elim
          | l q =>
            obtain rfl := hL q hy
            cases z with
            | t p => exact (hnoT p hz).elim
            | l p => rw [hL p hz]
            | b p =>
              have he : (if st.L.length = st.L.length then g.tk i else _) = c.bx p := he
              rw [if_pos rfl] at he
              exact absurd he.symm (hnb p hz)
          | b q =>
            cases z with
            | t p => exact (hnoT p hz).elim
            | l p =>
              obtain rfl := hL p hz
              have he : c.bx q = (if st.L.length = st.L.length then g.tk i else _) := he
              rw [if_pos rfl] at he
              exact absurd he (hnb q hy)
            | b p => exact h.fs.inj (.b q) (.b p) hy hz he
        · show RepF _ _ _ _ _ (get ((x, _) :: _) t) _
          simp only [get]
          cases hbt : Nat.beq x t with
          | true =>
            simp only [cond_true]
            obtain rfl := Nat.eq_of_beq_eq_true hbt
            rw [hv]
            cases hrow with
            | vec _ _ _ _ _ f hp hcap hok hcell hre hst =>
              have h4 := RepF.lsl (c := c) (g := { g with loc := fun q => if q = st.L.length then g.tk i else g.loc q, s := fun k => if k = g.tk i then 0 else g.s k }) (nL := dom (st.L.map (fun _ => (none : Option (List D))) ++ [some xs])) (nT := (st.τ.map fun _ => false).length) (w := w) st.L.length 0 xs.length 1 cap ⟨xs, by
                rw [List.getElem?_append_right (by simp)]; simp⟩ hcap
              have e : (if st.L.length = st.L.length then g.tk i else g.loc st.L.length) = g.tk i := if_pos rfl
              simp only [e] at h4
              exact h4
          | false =>
            simp only [cond_false]
            rw [get_plainU]
            unfold D.plainU
            cases hp : (get st.ρ t).plain with
            | true => exact plain_repF (h.env t) hp
            | false => exact .undef _
    · exact ⟨g, h⟩
  · exact ⟨g, h⟩

theorem Inv.at_ {nt : Nat} {st : St} {a : Act} (h : Inv c nt st a g w) (an : An) (id : Option Nat) : ∃ g', Inv c nt (an.at_ id st) a g' w := by
  cases id with
  | none => exact ⟨g, h⟩
  | some i =>
    have hp : Inv c nt { st with ρ := prune (an.keep i) st.ρ } a g w := ⟨h.fs, env_prune h.env _, h.size, h.defers⟩
    unfold An.at_
    simp only []
    split
    · exact thaw_spec hp _
    · exact ⟨g, hp⟩

def X.toExit : X → Exit
  | .norm => .normal
  | .exit i => .exit i
  | .ret => .ret

/-- Of regions whose order is drawn. -/
def DrawOK (c : Cx) (T : Tab) (C : Callees) : Prop :=
  ∀ (flip : Nat → Bool) (nt : Nat) (id : Nat) (ops : Array Oper) (dyn : Bool) (st st' : St) (a : Act) (g : Gh) (w : World) (Q : Exit → Act → World → Prop),
    regionV T flip C ops.toList true dyn st = some st' → Inv c nt st a g w → ops.toList.all (dstOk nt) = true → apartAll ops.toList = true → (dyn || calmAll flip ops.toList) = true →
    (∀ g' a' w', Inv c nt st' a' g' w' → Q .normal a' w') → (Code.region id ops true).wp c.P Q a w

theorem code_spec {T : Tab} (hT : TabOk c.P T) {C : Callees} (hC : CallOK c C) (hD : DrawOK c T C) {an : An} {nt : Nat} : ∀ (code : Code) {st st' : St} {x : X} {a : Act} {g : Gh} {w : World} {Q : Exit → Act → World → Prop},
    codeV T an C code st = some (x, st') → Inv c nt st a g w → codeOk an nt code = true → (∀ g' a' w', Inv c nt st' a' g' w' → Q x.toExit a' w') → code.wp c.P Q a w := by
  intro code
  induction code with
  | skip =>
    intro st st' x a g w Q h hi _ hq
    simp only [codeV] at h
    injection h with h; injection h with h1 h2; subst h1; subst h2
    exact wp_skip (hq g a w hi)
  | region id ops draw =>
    intro st st' x a g w Q h hi hd hq
    simp only [codeOk, Bool.and_eq_true, Bool.or_eq_true, Bool.not_eq_true'] at hd
    obtain ⟨hd, hap⟩ := hd
    simp only [codeV] at h
    split at h
    · rename_i st2 hr
      injection h with h; injection h with h1 h2; subst h1; subst h2
      obtain ⟨g, hi⟩ := hi.at_ an (some id)
      cases draw with
      | true => exact hD an.flip nt id ops (an.dyn id) _ _ a g w Q hr hi hd (hap.resolve_left (by simp)).1 (by have := (hap.resolve_left (by simp)).2; simpa using this) hq
      | false =>
        have := ops_spec (Q := Q) hT hC ops.toList (by simpa only [regionV, CC, cond_false, Bool.false_and] using hr) hi hd hq
        exact wp_region_list (by simpa using this)
    · cases h
  | seq x y ihx ihy =>
    intro st st' e a g w Q h hi hd hq
    simp only [codeOk, Bool.and_eq_true] at hd
    simp only [codeV] at h
    apply wp_seq
    split at h
    · rename_i st1 h1
      exact ihx h1 hi hd.1 (fun g' a' w' hi' => ihy h hi' hd.2 hq)
    · rename_i hne
      refine ihx h hi hd.1 (fun g' a' w' hi' => ?_)
      have hx : e ≠ .norm := fun he => by subst he; exact hne st' h
      have := hq g' a' w' hi'
      cases e with
      | norm => exact absurd rfl hx
      | _ => exact this
  | cond c' x y ihx ihy =>
    intro st st' e a g w Q h hi hd hq
    simp only [codeOk, Bool.and_eq_true] at hd
    simp only [codeV] at h
    split at h
    · rename_i t ht
      have hr := hi.env.eval c'
      rw [ht] at hr
      refine wp_cond hr.bool_inv ?_
      cases t with
      | true => exact ihx h hi hd.1 hq
      | false => exact ihy h hi hd.2 hq
    · cases h
  | block id c' ih =>
    intro st st' e a g w Q h hi hd hq
    simp only [codeOk] at hd
    simp only [codeV] at h
    apply wp_block
    split at h
    · rename_i i st1 h1
      refine ih h1 hi hd (fun g' a' w' hi' => ?_)
      show (if i = id then Q .normal a' w' else Q (.exit i) a' w')
      cases hb : Nat.beq i id with
      | true =>
        rw [hb] at h
        simp only [cond_true] at h
        injection h with h; injection h with h1 h2; subst h1; subst h2
        rw [if_pos (Nat.eq_of_beq_eq_true hb)]
        exact hq g' a' w' hi'
      | false =>
        rw [hb] at h
        simp only [cond_false] at h
        injection h with h; injection h with h1 h2; subst h1; subst h2
        rw [if_neg (fun he => by subst he; simp at hb)]
        exact hq g' a' w' hi'
    · rename_i hne
      refine ih h hi hd (fun g' a' w' hi' => ?_)
      have := hq g' a' w' hi'
      cases e with
      | exit i => exact absurd h (hne i st')
      | _ => exact this
  | loop c' ih =>
    intro st st' e a g w Q h hi hd hq
    simp only [codeOk] at hd
    simp only [codeV] at h
    obtain ⟨n, h⟩ := (loopW_iff _ _ _).1 h
    refine wp_loop_rounds n ?_
    have key : ∀ m {st : St} {a : Act} {g : Gh} {w : World}, loopV (fun s => codeV T an C c' (an.at_ (firstOf c') s)) m st = some (e, st') → Inv c nt st a g w → Code.rounds c.P c' Q m a w := by
      intro m
      induction m with
      | zero => intro st a g w h _; cases h
      | succ m ihm =>
        intro st a g w h hi
        simp only [loopV] at h
        rw [rounds_succ]
        obtain ⟨g, hi⟩ := hi.at_ an (firstOf c')
        split at h
        · rename_i st1 h1
          exact ih h1 hi hd (fun g' a' w' hi' => ihm h hi')
        · rename_i hne
          refine ih h hi hd (fun g' a' w' hi' => ?_)
          have hx : e ≠ .norm := fun he => by subst he; exact hne st' h
          have := hq g' a' w' hi'
          cases e with
          | norm => exact absurd rfl hx
          | _ => exact this
    exact key n h hi
  | exit id =>
    intro st st' x a g w Q h hi _ hq
    simp only [codeV] at h
    injection h with h; injection h with h1 h2; subst h1; subst h2
    exact wp_exit (hq g a w hi)
  | ret =>
    intro st st' x a g w Q h hi _ hq
    simp only [codeV] at h
    injection h with h; injection h with h1 h2; subst h1; subst h2
    exact wp_ret (hq g a w hi)
  | _ => intro st st' x a g w Q h; simp [codeV] at h

end Go.Proofs.YtdmlojinmkcldaaDoor.V
