/-
'==' of structs and arrays; the operations that touch no memory, done.
-/
import Derived.Test.YtploddijjofphaaDoorUG
import Derived.Laws.StructEq
import Derived.ChangeKeysEq
namespace Go.Proofs.YtploddijjofphaaDoor.V
set_option linter.unusedSimpArgs false
set_option linter.unusedVariables false
open Go Go.RowKit

variable {c : Cx} {g : Gh} {nL : Nat → Prop} {nT : Nat} {w : World}

/-- The values of these cells, in their order. -/
def RepL (c : Cx) (g : Gh) (nL : Nat → Prop) (nT : Nat) (w : World) (ds : List D) (vs : List Value) : Prop := ds.length = vs.length ∧ ∀ i d, ds[i]? = some d → RepF c g nL nT w d (vs.getD i Go.undef)

theorem RepL.drop {ds : List D} {vs : List Value} (h : RepL c g nL nT w ds vs) (n : Nat) : RepL c g nL nT w (ds.drop n) (vs.drop n) := by
  refine ⟨by simp [h.1], fun i d hi => ?_⟩
  rw [List.getElem?_drop] at hi
  have := h.2 _ _ hi
  simpa [List.getD_eq_getElem?_getD] using this

theorem RepL.take {ds : List D} {vs : List Value} (h : RepL c g nL nT w ds vs) (n : Nat) : RepL c g nL nT w (ds.take n) (vs.take n) := by
  refine ⟨by simp [h.1], fun i d hi => ?_⟩
  have hl := lt_of_get hi
  have hl : i < n ∧ i < ds.length := by simp at hl; omega
  rw [List.getElem?_take_of_lt hl.1] at hi
  have := h.2 _ _ hi
  simpa [List.getD_eq_getElem?_getD, List.getElem?_take_of_lt hl.1] using this

theorem RepL.one {d : D} {vs : List Value} (h : RepL c g nL nT w [d] vs) : ∃ v, vs = [v] ∧ RepF c g nL nT w d v := by
  obtain ⟨hl, hr⟩ := h
  cases vs with
  | nil => cases hl
  | cons v r => cases r with
    | nil => exact ⟨v, rfl, by simpa using hr 0 d rfl⟩
    | cons _ _ => simp at hl

/-- The value of a type, out of its cells. -/
def valOf (ti : TI) (us : List Value) : Value := if ti.agg then .agg us.toArray else us.headD Go.undef

theorem extract_eq (us : List Value) (off n : Nat) : (us.toArray).extract off (off + n) = ((us.drop off).take n).toArray := by
  apply Array.ext'
  simp [List.take_drop]

theorem run_part_agg {P : Program} {T : Tab} (hT : TabOk P T) {u : TypeId} {ui : TI} (ht : T u = some ui) (us : List Value) (off : Nat) (ha : ui.agg = true) (w : World) :
    (part u us.toArray off).run P w = .ok (valOf ui ((us.drop off).take ui.sz)) w := by
  simp [part, run_isAgg hT ht, ha, run_sizeOf' hT ht, valOf]

theorem run_part_leaf {P : Program} {T : Tab} (hT : TabOk P T) {u : TypeId} {ui : TI} (ht : T u = some ui) (us : List Value) (off : Nat) (ha : ui.agg = false) (v : Value) (hv : us[off]? = some v) (w : World) :
    (part u us.toArray off).run P w = .ok v w := by
  simp [part, run_isAgg hT ht, ha, hv]

theorem desc_of {P : Program} {T : Tab} (hT : TabOk P T) {t : TypeId} {ti : TI} (ht : T t = some ti) {d : TD} (hd : ti.d = d) : DescOk P t d := hd ▸ hT.desc t ti ht

def EqAt (P : Program) (T : Tab) (c : Cx) (g : Gh) (nL : Nat → Prop) (nT : Nat) (w : World) (n : Nat) (f : TypeId → List D → List D → Option Bool) : Prop :=
  ∀ t xs ys b ti us vs, f t xs ys = some b → T t = some ti → RepL c g nL nT w xs us → RepL c g nL nT w ys vs →
    (ti.agg = true ∨ us.length = 1 ∧ vs.length = 1) ∧ ∀ d, (Op.equalIn (d + n) t (valOf ti us) (valOf ti vs)).run P w = .ok b w

theorem run_eqFields' {P : Program} {T : Tab} (hT : TabOk P T) {n : Nat} {f : TypeId → List D → List D → Option Bool} (hf : EqAt P T c g nL nT w n f) (d : Nat) {xs ys : List D} {us vs : List Value}
    (hx : RepL c g nL nT w xs us) (hy : RepL c g nL nT w ys vs) : ∀ (fields : List Field) (b : Bool), (∀ f, f ∈ fields → f.name ≠ "_") → eqFields T f (fields.map fun f => (f.offset, f.type)) xs ys = some b →
    (Op.eqFields (d + n) us.toArray vs.toArray fields).run P w = .ok b w
  | [], b, _, h => by simp [eqFields] at h; subst h; simp [Op.eqFields]
  | fd :: fields, b, hn, h => by
    simp only [List.map_cons, eqFields] at h
    cases hu : T fd.type with
    | none => simp [hu] at h
    | some ui =>
      simp only [hu] at h
      cases h1 : f fd.type ((xs.drop fd.offset).take ui.sz) ((ys.drop fd.offset).take ui.sz) with
      | none => simp [h1] at h
      | some a =>
        simp only [h1] at h
        cases h2 : eqFields T f (fields.map fun f => (f.offset, f.type)) xs ys with
        | none => simp [h2] at h
        | some b' =>
          simp only [h2, Option.some.injEq] at h
          obtain ⟨hsh, he⟩ := hf _ _ _ _ ui _ _ h1 hu ((hx.drop fd.offset).take ui.sz) ((hy.drop fd.offset).take ui.sz)
          have ih := run_eqFields' hT hf d hx hy fields b' (fun f hf => hn f (by simp [hf])) h2
          have p1 : (part fd.type us.toArray fd.offset).run P w = .ok (valOf ui ((us.drop fd.offset).take ui.sz)) w := by
            rcases Bool.eq_false_or_eq_true ui.agg with ha | ha
            · exact run_part_agg hT hu us _ ha w
            · obtain ⟨l1, _⟩ := hsh.resolve_left (by simp [ha])
              cases hq : (us.drop fd.offset).take ui.sz with
              | nil => simp [hq] at l1
              | cons v r =>
                have hv : us[fd.offset]? = some v := by
                  have := congrArg (·[0]?) hq
                  simp only [List.getElem?_cons_zero] at this
                  rw [List.getElem?_take] at this
                  split at this
                  · simpa using this
                  · cases this
                simp only [valOf, ha]
                exact run_part_leaf hT hu us _ ha v hv w
          have p2 : (part fd.type vs.toArray fd.offset).run P w = .ok (valOf ui ((vs.drop fd.offset).take ui.sz)) w := by
            rcases Bool.eq_false_or_eq_true ui.agg with ha | ha
            · exact run_part_agg hT hu vs _ ha w
            · obtain ⟨_, l1⟩ := hsh.resolve_left (by simp [ha])
              cases hq : (vs.drop fd.offset).take ui.sz with
              | nil => simp [hq] at l1
              | cons v r =>
                have hv : vs[fd.offset]? = some v := by
                  have := congrArg (·[0]?) hq
                  simp only [List.getElem?_cons_zero] at this
                  rw [List.getElem?_take] at this
                  split at this
                  · simpa using this
                  · cases this
                simp only [valOf, ha]
                exact run_part_leaf hT hu vs _ ha v hv w
          have hname := hn fd (by simp)
          simp only [Op.eqFields, hname, ne_eq, not_false_eq_true, if_true, Sem.run_bind, p1, p2, he d, Result.andThen_ok]
          cases a
          · simp at h; subst h; simp
          · simp at h; subst h; simpa using ih


theorem head_of {us : List Value} {n sz : Nat} (hl : ((us.drop n).take sz).length = 1) : us[n]? = some (((us.drop n).take sz).headD Go.undef) := by
  cases hq : (us.drop n).take sz with
  | nil => simp [hq] at hl
  | cons v r =>
    have := congrArg (·[0]?) hq
    simp only [List.getElem?_cons_zero] at this
    rw [List.getElem?_take] at this
    split at this
    · simpa using this
    · cases this

theorem run_part' {P : Program} {T : Tab} (hT : TabOk P T) {u : TypeId} {ui : TI} (ht : T u = some ui) (us : List Value) (off : Nat) (h : ui.agg = true ∨ ((us.drop off).take ui.sz).length = 1) (w : World) :
    (part u us.toArray off).run P w = .ok (valOf ui ((us.drop off).take ui.sz)) w := by
  rcases Bool.eq_false_or_eq_true ui.agg with ha | ha
  · exact run_part_agg hT ht us _ ha w
  · simp only [valOf, ha]
    exact run_part_leaf hT ht us _ ha _ (head_of (h.resolve_left (by simp [ha]))) w

theorem run_eqItems' {P : Program} {T : Tab} (hT : TabOk P T) {n : Nat} {f : TypeId → List D → List D → Option Bool} (hf : EqAt P T c g nL nT w n f) (d : Nat) {e : TypeId} {ei : TI} (he : T e = some ei) {xs ys : List D} {us vs : List Value}
    (hx : RepL c g nL nT w xs us) (hy : RepL c g nL nT w ys vs) : ∀ (m k : Nat) (b : Bool), eqItems (f e) ei.sz m (xs.drop (k * ei.sz)) (ys.drop (k * ei.sz)) = some b →
    (Op.eqItems (d + n) e ei.sz us.toArray vs.toArray (List.range' k m)).run P w = .ok b w
  | 0, k, b, h => by simp [eqItems] at h; subst h; simp [Op.eqItems]
  | m + 1, k, b, h => by
    simp only [eqItems, List.drop_drop] at h
    rw [show k * ei.sz + ei.sz = (k + 1) * ei.sz by rw [Nat.add_mul]; omega] at h
    cases h1 : f e ((xs.drop (k * ei.sz)).take ei.sz) ((ys.drop (k * ei.sz)).take ei.sz) with
    | none => simp [h1] at h
    | some a =>
      simp only [h1] at h
      cases h2 : eqItems (f e) ei.sz m (xs.drop ((k + 1) * ei.sz)) (ys.drop ((k + 1) * ei.sz)) with
      | none => simp [h2] at h
      | some b' =>
        simp only [h2, Option.some.injEq] at h
        obtain ⟨hsh, hq⟩ := hf _ _ _ _ ei _ _ h1 he ((hx.drop _).take ei.sz) ((hy.drop _).take ei.sz)
        have ih := run_eqItems' hT hf d he hx hy m (k + 1) b' h2
        have p1 := run_part' hT he us (k * ei.sz) (hsh.imp id And.left) w
        have p2 := run_part' hT he vs (k * ei.sz) (hsh.imp id And.right) w
        simp only [List.range'_succ, Op.eqItems, Sem.run_bind, p1, p2, hq d, Result.andThen_ok]
        cases a
        · simp at h; subst h; simp
        · simp at h; subst h; simpa using ih

theorem eqT_at {P : Program} {T : Tab} (hT : TabOk P T) : ∀ n, EqAt P T c g nL nT w n (eqT T n)
  | 0 => fun t xs ys b ti us vs h => by simp [eqT] at h
  | n + 1 => by
    intro t xs ys b ti us vs h ht hx hy
    simp only [eqT, ht] at h
    have ih := eqT_at hT n
    cases hd : ti.d with
    | struct fs =>
      simp only [hd] at h
      cases hc : ti.cmp with
      | false => simp [hc] at h
      | true =>
        simp only [hc, cond_true] at h
        obtain ⟨fields, hu, hfs, hn⟩ := desc_of hT ht hd
        have hagg : ti.agg = true := by simp [TI.agg, hd]
        refine ⟨.inl hagg, fun d => ?_⟩
        rw [← hfs] at h
        have hq := run_eqFields' hT ih d hx hy fields.toList b hn h
        have hfo : P.fieldsOf t = fields := by simp [Program.fieldsOf, hu]
        simp only [valOf, hagg, if_true]
        rw [show d + (n + 1) = (d + n) + 1 by omega, run_equalIn_struct w (d + n) t us.toArray vs.toArray (by rw [hfo]; exact hu) (hT.held t ti ht hc), hfo]
        exact hq
    | array m e =>
      simp only [hd] at h
      cases he : T e with
      | none => simp [he] at h
      | some ei =>
        simp only [he] at h
        have hu : P.underlying t = some (.array m e) := desc_of hT ht hd
        have hagg : ti.agg = true := by simp [TI.agg, hd]
        refine ⟨.inl hagg, fun d => ?_⟩
        obtain ⟨i, z, hi, hs, _⟩ := hT.info e ei he
        have hco : P.cellsOf e = ei.sz := by simp [Program.cellsOf, hi, hs]
        have hq := run_eqItems' hT ih d he hx hy m 0 b (by simpa using h)
        simp only [valOf, hagg, if_true]
        rw [show d + (n + 1) = (d + n) + 1 by omega, run_equalIn_array w (d + n) us.toArray vs.toArray hu hi, hco, List.range_eq_range']
        exact hq
    | bool =>
      simp only [hd] at h
      split at h
      · injection h with h; subst h
        obtain ⟨u, rfl, hu⟩ := hx.one
        obtain ⟨v, rfl, hv⟩ := hy.one
        obtain rfl := hu.bool_inv
        obtain rfl := hv.bool_inv
        refine ⟨.inr ⟨rfl, rfl⟩, fun d => ?_⟩
        have hagg : ti.agg = false := by simp [TI.agg, hd]
        simp only [valOf, hagg]
        exact run_equalIn_bool w (d + n) t _ _ (desc_of hT ht hd)
      · cases h
    | int k =>
      simp only [hd] at h
      split at h
      · split at h
        · rename_i hk; subst hk
          injection h with h; subst h
          obtain ⟨u, rfl, hu⟩ := hx.one
          obtain ⟨v, rfl, hv⟩ := hy.one
          obtain rfl := hu.int_inv
          obtain rfl := hv.int_inv
          refine ⟨.inr ⟨rfl, rfl⟩, fun d => ?_⟩
          have hagg : ti.agg = false := by simp [TI.agg, hd]
          simp only [valOf, hagg]
          exact run_equalIn_int w (d + n) t _ _ _ _ (desc_of hT ht hd)
        · cases h
      · cases h
    | str =>
      simp only [hd] at h
      split at h
      · injection h with h; subst h
        obtain ⟨u, rfl, hu⟩ := hx.one
        obtain ⟨v, rfl, hv⟩ := hy.one
        obtain ⟨s, rfl, hs⟩ := hu.str_inv
        obtain ⟨s', rfl, hs'⟩ := hv.str_inv
        refine ⟨.inr ⟨rfl, rfl⟩, fun d => ?_⟩
        have hagg : ti.agg = false := by simp [TI.agg, hd]
        simp only [valOf, hagg]
        have := run_equalIn_string w (d + n) t s s' (desc_of hT ht hd)
        rw [ByteArray.toList_eq, ByteArray.toList_eq, hs, hs'] at this
        exact this
      · cases h
    | _ => simp [hd] at h

/-! ### The operations -/
theorem op_move {T : Tab} {st : St} {a : Act} {o : Oper} {x : Operand} (ho : o.op = .move x ∨ o.op = .assign x) (hf : FS c g st.L st.τ st.B w) (he : EnvR c g (dom st.L) st.τ.length w st.ρ a) :
    OpOk c g st w a o (evalT T o.type st.ρ x) st := by
  refine .pure (v := a.eval x) ?_ hf (he.evalT x)
  rcases ho with ho | ho <;> simp [execOp, ho]

theorem op_pick {T : Tab} {st : St} {a : Act} {o : Oper} {x y z : Operand} {t : Bool} (ho : o.op = .pick x y z) (hf : FS c g st.L st.τ st.B w) (he : EnvR c g (dom st.L) st.τ.length w st.ρ a) (hx : eval st.ρ x = .bool t) :
    OpOk c g st w a o (bif t then evalT T o.type st.ρ y else evalT T o.type st.ρ z) st := by
  have h := he.eval x
  rw [hx] at h
  have h := h.bool_inv
  cases t
  · exact .pure (v := a.eval z) (by simp [execOp, ho, h, asBool]) hf (he.evalT z)
  · exact .pure (v := a.eval y) (by simp [execOp, ho, h, asBool]) hf (he.evalT y)

theorem eval_const {a : Act} {v : Value} : a.eval (.const v) = v := rfl

theorem op_unOp {st : St} {a : Act} {o : Oper} {op : UnOp} {t : TypeId} {x : Operand} {d : D} (ho : o.op = .unOp op t x) (hf : FS c g st.L st.τ st.B w) (he : EnvR c g (dom st.L) st.τ.length w st.ρ a)
    (hd : unV op (eval st.ρ x) = some d) : OpOk c g st w a o d st := by
  have h := he.eval x
  unfold unV at hd
  split at hd
  · rename_i k n hx
    rw [hx] at h; have h := h.int_inv
    injection hd with hd; subst hd
    exact .pure (v := .int k (k.wrap (0 - n))) (by simp [execOp, ho, h, Op.unary, Op.intArith]) hf (.clean _ _ (.int _ _))
  · rename_i k n hx
    rw [hx] at h; have h := h.int_inv
    injection hd with hd; subst hd
    refine .pure (v := .int k (bitsV .xor k (if k.signed then -1 else k.max) n)) ?_ hf (.clean _ _ (.int _ _))
    have := bits_back .xor k (if k.signed then -1 else k.max) n w c.P (by simp)
    simp [execOp, ho, h, Op.unary, this]
  · rename_i b hx
    rw [hx] at h; have h := h.bool_inv
    injection hd with hd; subst hd
    exact .pure (v := .bool !b) (by simp [execOp, ho, h, Op.unary]) hf (.clean _ _ (.bool _))
  · cases hd

theorem op_extract {st : St} {a : Act} {o : Oper} {x : Operand} {i : Nat} {ds : List D} {d : D} (ho : o.op = .extract x i) (hf : FS c g st.L st.τ st.B w) (he : EnvR c g (dom st.L) st.τ.length w st.ρ a)
    (hx : eval st.ρ x = .tuple ds) (hd : ds[i]? = some d) : OpOk c g st w a o d st := by
  have h := he.eval x
  rw [hx] at h
  obtain ⟨vs, h, hl, hr⟩ := h.tuple_inv
  have hi := lt_of_get hd
  have hlt : i < vs.size := by omega
  have hv : vs[i]? = some vs[i] := Array.getElem?_eq_getElem hlt
  have hr' := hr i d hd
  have hg : vs.getD i Go.undef = vs[i] := by simp [Array.getD, hlt]
  rw [hg] at hr'
  exact .pure (v := vs[i]) (by simp only [execOp, ho, h, Instr.extract, hv]; rfl) hf hr'

end Go.Proofs.YtploddijjofphaaDoor.V
