import Derived.Test.YtbbbhalmlboapaaDoorUF
import Derived.Laws.Strings
import Derived.LaidEql
import Derived.WideLaws
import Derived.WalkSpells
import Derived.Laws.StructEq
import Derived.ChangeKeysEq
/-
The operations on numbers, texts, bools and values of several cells.
-/
namespace Go.Proofs.YtbbbhalmlboapaaDoor.V
set_option linter.unusedSimpArgs false
set_option linter.unusedVariables false
open Go Go.RowKit

variable {c : Cx} {g : Gh} {nL : Nat → Prop} {nT : Nat} {w : World}

theorem run_strV {P : Program} {op : BinOp} {x y : ByteArray} {d : D} (h : strV op x.data.toList y.data.toList = some d) (w : World) :
    ∃ v, (Op.stringOp op x y).run P w = .ok v w ∧ ∀ bx s w, Rep bx s w d v := by
  unfold strV at h
  unfold Op.stringOp
  simp only [ByteArray.toList_eq]
  cases op <;> simp only [reduceCtorEq] at h
  case add =>
    split at h
    · rename_i hl
      injection h with h; subst h
      have hl' : x.size + y.size ≤ 9223372036854775807 := by simpa using hl
      refine ⟨.string (x ++ y), ?_, fun bx s w => ?_⟩
      · rw [if_neg (by simp only [IntKind.max, IntKind.signed, IntKind.bits]; simp; omega)]; rfl
      · have := Rep.str (bx := bx) (s := s) (w := w) (x ++ y)
        simpa using this
    · cases h
  all_goals (injection h with h; subst h; exact ⟨_, rfl, fun _ _ _ => .bool _⟩)

theorem run_binOp_str {P : Program} {op : BinOp} (t : TypeId) {x y : ByteArray} {d : D} (h : strV op x.data.toList y.data.toList = some d) (w : World) :
    ∃ v, (binOp op t (.string x) (.string y)).run P w = .ok v w ∧ ∀ bx s w, Rep bx s w d v := by
  obtain ⟨v, hr, hd⟩ := run_strV (P := P) h w
  refine ⟨v, ?_, hd⟩
  have : binOp op t (.string x) (.string y) = Op.stringOp op x y := by cases op <;> rfl
  rw [this]; exact hr

theorem run_binOp_int {P : Program} {op : BinOp} (t : TypeId) {k : IntKind} {a b : Int} {d : D} (h1 : op ≠ .shl) (h2 : op ≠ .shr) (h : intV op k a b = some d) (w : World) :
    ∃ v, (binOp op t (.int k a) (.int k b)).run P w = .ok v w ∧ ∀ bx s w, Rep bx s w d v := by
  unfold intV at h
  cases op <;> simp only [reduceCtorEq] at h <;> first | exact absurd rfl h1 | exact absurd rfl h2 | skip
  case quo =>
    split at h
    · cases h
    · rename_i hb; injection h with h; subst h
      exact ⟨_, by simp [binOp, Op.intDiv, hb], fun _ _ _ => .int _ _⟩
  case rem =>
    split at h
    · cases h
    · rename_i hb; injection h with h; subst h
      exact ⟨_, by simp [binOp, Op.intDiv, hb], fun _ _ _ => .int _ _⟩
  case and => injection h with h; subst h; exact ⟨_, by simp [binOp]; exact bits_back .and k a b w P (by simp), fun _ _ _ => .int _ _⟩
  case or => injection h with h; subst h; exact ⟨_, by simp [binOp]; exact bits_back .or k a b w P (by simp), fun _ _ _ => .int _ _⟩
  case xor => injection h with h; subst h; exact ⟨_, by simp [binOp]; exact bits_back .xor k a b w P (by simp), fun _ _ _ => .int _ _⟩
  case andNot => injection h with h; subst h; exact ⟨_, by simp [binOp]; exact bits_back .andNot k a b w P (by simp), fun _ _ _ => .int _ _⟩
  case add => injection h with h; subst h; exact ⟨_, by simp [binOp, Op.intArith], fun _ _ _ => .int _ _⟩
  case sub => injection h with h; subst h; exact ⟨_, by simp [binOp, Op.intArith], fun _ _ _ => .int _ _⟩
  case mul => injection h with h; subst h; exact ⟨_, by simp [binOp, Op.intArith], fun _ _ _ => .int _ _⟩
  all_goals (injection h with h; subst h; exact ⟨_, by simp [binOp, Op.intCmp], fun _ _ _ => .bool _⟩)

theorem run_shift {P : Program} (t : TypeId) {k k' : IntKind} {a b : Int} (hb : ¬ b < 0) (w : World) :
    (binOp .shl t (.int k a) (.int k' b)).run P w = .ok (.int k (shlV k a b)) w ∧ (binOp .shr t (.int k a) (.int k' b)).run P w = .ok (.int k (shrV k a b)) w := by
  constructor <;> simp [binOp, Op.shift, hb, shlV, shrV] <;> rfl

theorem run_eqGuard_other {P : Program} (op : BinOp) (t : TypeId) (x y : Operand) (a b : Value) (w : World) (h : match a, b with | .nilIface, .nilIface => False | .agg _, .agg _ => False | _, _ => True) :
    (eqGuard op t x y a b).run P w = .ok () w := by
  cases a <;> cases b <;> first | exact h.elim | (unfold eqGuard; split <;> rfl)

theorem rep_eqOp {op : BinOp} {b : Bool} {d : D} (h : eqOp op b = some d) : (op = .eql ∧ d = .bool b) ∨ (op = .neq ∧ d = .bool !b) := by
  unfold eqOp at h
  split at h
  · injection h with h; exact .inl ⟨rfl, h.symm⟩
  · injection h with h; exact .inr ⟨rfl, h.symm⟩
  · cases h

/-- '==' and '!=' by what 'equal' tells. -/
theorem run_binOp_eq {P : Program} {op : BinOp} {t : TypeId} {u v : Value} {b : Bool} {d : D} (h : eqOp op b = some d) (w : World) (he : (Op.equal t u v).run P w = .ok b w)
    (h1 : ∀ k n, u ≠ .int k n) (h2 : ∀ k n, u ≠ .float k n) (h3 : ∀ k n m, u ≠ .complex k n m) (h4 : ∀ s, u ≠ .string s) :
    ∃ r, (binOp op t u v).run P w = .ok r w ∧ ∀ bx s w, Rep bx s w d r := by
  rcases rep_eqOp h with ⟨rfl, rfl⟩ | ⟨rfl, rfl⟩
  · refine ⟨.bool b, ?_, fun _ _ _ => .bool _⟩
    have : binOp .eql t u v = (do pure (.bool (← Op.equal t u v))) := by
      cases u <;> first | exact absurd rfl (h1 _ _) | exact absurd rfl (h2 _ _) | exact absurd rfl (h3 _ _ _) | exact absurd rfl (h4 _) | rfl
    rw [this]; simp [he]
  · refine ⟨.bool !b, ?_, fun _ _ _ => .bool _⟩
    have : binOp .neq t u v = (do pure (.bool (!(← Op.equal t u v)))) := by
      cases u <;> first | exact absurd rfl (h1 _ _) | exact absurd rfl (h2 _ _) | exact absurd rfl (h3 _ _ _) | exact absurd rfl (h4 _) | rfl
    rw [this]; simp [he]

end Go.Proofs.YtbbbhalmlboapaaDoor.V

/-
'==' of structs and arrays; the operations that touch no memory, done.
-/
namespace Go.Proofs.YtbbbhalmlboapaaDoor.V
set_option linter.unusedSimpArgs false
set_option linter.unusedVariables false
open Go Go.RowKit

variable {c : Cx} {g : Gh} {nL : Nat → Prop} {nT : Nat} {w : World}

/-- The values of these cells, in their order. -/
def RepL (c : Cx) (g : Gh) (nL : Nat → Prop) (nT : Nat) (w : World) (ds : List D) (vs : List Value) : Prop := ds.length = vs.length ∧ ∀ i d, ds[i]? = some d → RepF c g nL nT w d (vs.getD i Go.undef)

theorem RepL.drop {ds : List D} {vs : List Value} (h : RepL c g nL nT w ds vs) (n : Nat) : RepL c g nL nT w (ds.drop n) (vs.drop n) := by
  refine ⟨by simp [h.1], fun i d hi => ?_⟩
  rw [List.getElem?_drop] at hi
  have := h.2 _ _ hi
  simpa [List.getD_eq_getElem?_getD] using this

theorem RepL.take {ds : List D} {vs : List Value} (h : RepL c g nL nT w ds vs) (n : Nat) : RepL c g nL nT w (ds.take n) (vs.take n) := by
  refine ⟨by simp [h.1], fun i d hi => ?_⟩
  have hl := lt_of_get hi
  have hl : i < n ∧ i < ds.length := by simp at hl; omega
  rw [List.getElem?_take_of_lt hl.1] at hi
  have := h.2 _ _ hi
  simpa [List.getD_eq_getElem?_getD, List.getElem?_take_of_lt hl.1] using this

theorem RepL.one {d : D} {vs : List Value} (h : RepL c g nL nT w [d] vs) : ∃ v, vs = [v] ∧ RepF c g nL nT w d v := by
  obtain ⟨hl, hr⟩ := h
  cases vs with
  | nil => cases hl
  | cons v r => cases r with
    | nil => exact ⟨v, rfl, by simpa using hr 0 d rfl⟩
    | cons _ _ => simp at hl

/-- The value of a type, out of its cells. -/
def valOf (ti : TI) (us : List Value) : Value := if ti.agg then .agg us.toArray else us.headD Go.undef

theorem extract_eq (us : List Value) (off n : Nat) : (us.toArray).extract off (off + n) = ((us.drop off).take n).toArray := by
  apply Array.ext'
  simp [List.take_drop]

theorem run_part_agg {P : Program} {T : Tab} (hT : TabOk P T) {u : TypeId} {ui : TI} (ht : T u = some ui) (us : List Value) (off : Nat) (ha : ui.agg = true) (w : World) :
    (part u us.toArray off).run P w = .ok (valOf ui ((us.drop off).take ui.sz)) w := by
  simp [part, run_isAgg hT ht, ha, run_sizeOf' hT ht, valOf]

theorem run_part_leaf {P : Program} {T : Tab} (hT : TabOk P T) {u : TypeId} {ui : TI} (ht : T u = some ui) (us : List Value) (off : Nat) (ha : ui.agg = false) (v : Value) (hv : us[off]? = some v) (w : World) :
    (part u us.toArray off).run P w = .ok v w := by
  simp [part, run_isAgg hT ht, ha, hv]

theorem desc_of {P : Program} {T : Tab} (hT : TabOk P T) {t : TypeId} {ti : TI} (ht : T t = some ti) {d : TD} (hd : ti.d = d) : DescOk P t d := hd ▸ hT.desc t ti ht

def EqAt (P : Program) (T : Tab) (c : Cx) (g : Gh) (nL : Nat → Prop) (nT : Nat) (w : World) (n : Nat) (f : TypeId → List D → List D → Option Bool) : Prop :=
  ∀ t xs ys b ti us vs, f t xs ys = some b → T t = some ti → RepL c g nL nT w xs us → RepL c g nL nT w ys vs →
    (ti.agg = true ∨ us.length = 1 ∧ vs.length = 1) ∧ ∀ d, (Op.equalIn (d + n) t (valOf ti us) (valOf ti vs)).run P w = .ok b w

theorem run_eqFields' {P : Program} {T : Tab} (hT : TabOk P T) {n : Nat} {f : TypeId → List D → List D → Option Bool} (hf : EqAt P T c g nL nT w n f) (d : Nat) {xs ys : List D} {us vs : List Value}
    (hx : RepL c g nL nT w xs us) (hy : RepL c g nL nT w ys vs) : ∀ (fields : List Field) (b : Bool), (∀ f, f ∈ fields → f.name ≠ "_") → eqFields T f (fields.map fun f => (f.offset, f.type)) xs ys = some b →
    (Op.eqFields (d + n) us.toArray vs.toArray fields).run P w = .ok b w
  | [], b, _, h => by simp [eqFields] at h; subst h; simp [Op.eqFields]
  | fd :: fields, b, hn, h => by
    simp only [List.map_cons, eqFields] at h
    cases hu : T fd.type with
    | none => simp [hu] at h
    | some ui =>
      simp only [hu] at h
      cases h1 : f fd.type ((xs.drop fd.offset).take ui.sz) ((ys.drop fd.offset).take ui.sz) with
      | none => simp [h1] at h
      | some a =>
        simp only [h1] at h
        cases h2 : eqFields T f (fields.map fun f => (f.offset, f.type)) xs ys with
        | none => simp [h2] at h
        | some b' =>
          simp only [h2, Option.some.injEq] at h
          obtain ⟨hsh, he⟩ := hf _ _ _ _ ui _ _ h1 hu ((hx.drop fd.offset).take ui.sz) ((hy.drop fd.offset).take ui.sz)
          have ih := run_eqFields' hT hf d hx hy fields b' (fun f hf => hn f (by simp [hf])) h2
          have p1 : (part fd.type us.toArray fd.offset).run P w = .ok (valOf ui ((us.drop fd.offset).take ui.sz)) w := by
            rcases Bool.eq_false_or_eq_true ui.agg with ha | ha
            · exact run_part_agg hT hu us _ ha w
            · obtain ⟨l1, _⟩ := hsh.resolve_left (by simp [ha])
              cases hq : (us.drop fd.offset).take ui.sz with
              | nil => simp [hq] at l1
              | cons v r =>
                have hv : us[fd.offset]? = some v := by
                  have := congrArg (·[0]?) hq
                  simp only [List.getElem?_cons_zero] at this
                  rw [List.getElem?_take] at this
                  split at this
                  · simpa using this
                  · cases this
                simp only [valOf, ha]
                exact run_part_leaf hT hu us _ ha v hv w
          have p2 : (part fd.type vs.toArray fd.offset).run P w = .ok (valOf ui ((vs.drop fd.offset).take ui.sz)) w := by
            rcases Bool.eq_false_or_eq_true ui.agg with ha | ha
            · exact run_part_agg hT hu vs _ ha w
            · obtain ⟨_, l1⟩ := hsh.resolve_left (by simp [ha])
              cases hq : (vs.drop fd.offset).take ui.sz with
              | nil => simp [hq] at l1
              | cons v r =>
                have hv : vs[fd.offset]? = some v := by
                  have := congrArg (·[0]?) hq
                  simp only [List.getElem?_cons_zero] at this
                  rw [List.getElem?_take] at this
                  split at this
                  · simpa using this
                  · cases this
                simp only [valOf, ha]
                exact run_part_leaf hT hu vs _ ha v hv w
          have hname := hn fd (by simp)
          simp only [Op.eqFields, hname, ne_eq, not_false_eq_true, if_true, Sem.run_bind, p1, p2, he d, Result.andThen_ok]
          cases a
          · simp at h; subst h; simp
          · simp at h; subst h; simpa using ih


theorem head_of {us : List Value} {n sz : Nat} (hl : ((us.drop n).take sz).length = 1) : us[n]? = some (((us.drop n).take sz).headD Go.undef) := by
  cases hq : (us.drop n).take sz with
  | nil => simp [hq] at hl
  | cons v r =>
    have := congrArg (·[0]?) hq
    simp only [List.getElem?_cons_zero] at this
    rw [List.getElem?_take] at this
    split at this
    · simpa using this
    · cases this

theorem run_part' {P : Program} {T : Tab} (hT : TabOk P T) {u : TypeId} {ui : TI} (ht : T u = some ui) (us : List Value) (off : Nat) (h : ui.agg = true ∨ ((us.drop off).take ui.sz).length = 1) (w : World) :
    (part u us.toArray off).run P w = .ok (valOf ui ((us.drop off).take ui.sz)) w := by
  rcases Bool.eq_false_or_eq_true ui.agg with ha | ha
  · exact run_part_agg hT ht us _ ha w
  · simp only [valOf, ha]
    exact run_part_leaf hT ht us _ ha _ (head_of (h.resolve_left (by simp [ha]))) w

theorem run_eqItems' {P : Program} {T : Tab} (hT : TabOk P T) {n : Nat} {f : TypeId → List D → List D → Option Bool} (hf : EqAt P T c g nL nT w n f) (d : Nat) {e : TypeId} {ei : TI} (he : T e = some ei) {xs ys : List D} {us vs : List Value}
    (hx : RepL c g nL nT w xs us) (hy : RepL c g nL nT w ys vs) : ∀ (m k : Nat) (b : Bool), eqItems (f e) ei.sz m (xs.drop (k * ei.sz)) (ys.drop (k * ei.sz)) = some b →
    (Op.eqItems (d + n) e ei.sz us.toArray vs.toArray (List.range' k m)).run P w = .ok b w
  | 0, k, b, h => by simp [eqItems] at h; subst h; simp [Op.eqItems]
  | m + 1, k, b, h => by
    simp only [eqItems, List.drop_drop] at h
    rw [show k * ei.sz + ei.sz = (k + 1) * ei.sz by rw [Nat.add_mul]; omega] at h
    cases h1 : f e ((xs.drop (k * ei.sz)).take ei.sz) ((ys.drop (k * ei.sz)).take ei.sz) with
    | none => simp [h1] at h
    | some a =>
      simp only [h1] at h
      cases h2 : eqItems (f e) ei.sz m (xs.drop ((k + 1) * ei.sz)) (ys.drop ((k + 1) * ei.sz)) with
      | none => simp [h2] at h
      | some b' =>
        simp only [h2, Option.some.injEq] at h
        obtain ⟨hsh, hq⟩ := hf _ _ _ _ ei _ _ h1 he ((hx.drop _).take ei.sz) ((hy.drop _).take ei.sz)
        have ih := run_eqItems' hT hf d he hx hy m (k + 1) b' h2
        have p1 := run_part' hT he us (k * ei.sz) (hsh.imp id And.left) w
        have p2 := run_part' hT he vs (k * ei.sz) (hsh.imp id And.right) w
        simp only [List.range'_succ, Op.eqItems, Sem.run_bind, p1, p2, hq d, Result.andThen_ok]
        cases a
        · simp at h; subst h; simp
        · simp at h; subst h; simpa using ih

theorem eqT_at {P : Program} {T : Tab} (hT : TabOk P T) : ∀ n, EqAt P T c g nL nT w n (eqT T n)
  | 0 => fun t xs ys b ti us vs h => by simp [eqT] at h
  | n + 1 => by
    intro t xs ys b ti us vs h ht hx hy
    simp only [eqT, ht] at h
    have ih := eqT_at hT n
    cases hd : ti.d with
    | struct fs =>
      simp only [hd] at h
      cases hc : ti.cmp with
      | false => simp [hc] at h
      | true =>
        simp only [hc, cond_true] at h
        obtain ⟨fields, hu, hfs, hn⟩ := desc_of hT ht hd
        have hagg : ti.agg = true := by simp [TI.agg, hd]
        refine ⟨.inl hagg, fun d => ?_⟩
        rw [← hfs] at h
        have hq := run_eqFields' hT ih d hx hy fields.toList b hn h
        have hfo : P.fieldsOf t = fields := by simp [Program.fieldsOf, hu]
        simp only [valOf, hagg, if_true]
        rw [show d + (n + 1) = (d + n) + 1 by omega, run_equalIn_struct w (d + n) t us.toArray vs.toArray (by rw [hfo]; exact hu) (hT.held t ti ht hc), hfo]
        exact hq
    | array m e =>
      simp only [hd] at h
      cases he : T e with
      | none => simp [he] at h
      | some ei =>
        simp only [he] at h
        have hu : P.underlying t = some (.array m e) := desc_of hT ht hd
        have hagg : ti.agg = true := by simp [TI.agg, hd]
        refine ⟨.inl hagg, fun d => ?_⟩
        obtain ⟨i, z, hi, hs, _⟩ := hT.info e ei he
        have hco : P.cellsOf e = ei.sz := by simp [Program.cellsOf, hi, hs]
        have hq := run_eqItems' hT ih d he hx hy m 0 b (by simpa using h)
        simp only [valOf, hagg, if_true]
        rw [show d + (n + 1) = (d + n) + 1 by omega, run_equalIn_array w (d + n) us.toArray vs.toArray hu hi, hco, List.range_eq_range']
        exact hq
    | bool =>
      simp only [hd] at h
      split at h
      · injection h with h; subst h
        obtain ⟨u, rfl, hu⟩ := hx.one
        obtain ⟨v, rfl, hv⟩ := hy.one
        obtain rfl := hu.bool_inv
        obtain rfl := hv.bool_inv
        refine ⟨.inr ⟨rfl, rfl⟩, fun d => ?_⟩
        have hagg : ti.agg = false := by simp [TI.agg, hd]
        simp only [valOf, hagg]
        exact run_equalIn_bool w (d + n) t _ _ (desc_of hT ht hd)
      · cases h
    | int k =>
      simp only [hd] at h
      split at h
      · split at h
        · rename_i hk; subst hk
          injection h with h; subst h
          obtain ⟨u, rfl, hu⟩ := hx.one
          obtain ⟨v, rfl, hv⟩ := hy.one
          obtain rfl := hu.int_inv
          obtain rfl := hv.int_inv
          refine ⟨.inr ⟨rfl, rfl⟩, fun d => ?_⟩
          have hagg : ti.agg = false := by simp [TI.agg, hd]
          simp only [valOf, hagg]
          exact run_equalIn_int w (d + n) t _ _ _ _ (desc_of hT ht hd)
        · cases h
      · cases h
    | str =>
      simp only [hd] at h
      split at h
      · injection h with h; subst h
        obtain ⟨u, rfl, hu⟩ := hx.one
        obtain ⟨v, rfl, hv⟩ := hy.one
        obtain ⟨s, rfl, hs⟩ := hu.str_inv
        obtain ⟨s', rfl, hs'⟩ := hv.str_inv
        refine ⟨.inr ⟨rfl, rfl⟩, fun d => ?_⟩
        have hagg : ti.agg = false := by simp [TI.agg, hd]
        simp only [valOf, hagg]
        have := run_equalIn_string w (d + n) t s s' (desc_of hT ht hd)
        rw [ByteArray.toList_eq, ByteArray.toList_eq, hs, hs'] at this
        exact this
      · cases h
    | _ => simp [hd] at h

/-! ### The operations -/
theorem op_move {T : Tab} {st : St} {a : Act} {o : Oper} {x : Operand} (ho : o.op = .move x ∨ o.op = .assign x) (hf : FS c g st.L st.τ st.B w) (he : EnvR c g (dom st.L) st.τ.length w st.ρ a) :
    OpOk c g st w a o (evalT T o.type st.ρ x) st := by
  refine .pure (v := a.eval x) ?_ hf (he.evalT x)
  rcases ho with ho | ho <;> simp [execOp, ho]

theorem op_pick {T : Tab} {st : St} {a : Act} {o : Oper} {x y z : Operand} {t : Bool} (ho : o.op = .pick x y z) (hf : FS c g st.L st.τ st.B w) (he : EnvR c g (dom st.L) st.τ.length w st.ρ a) (hx : eval st.ρ x = .bool t) :
    OpOk c g st w a o (bif t then evalT T o.type st.ρ y else evalT T o.type st.ρ z) st := by
  have h := he.eval x
  rw [hx] at h
  have h := h.bool_inv
  cases t
  · exact .pure (v := a.eval z) (by simp [execOp, ho, h, asBool]) hf (he.evalT z)
  · exact .pure (v := a.eval y) (by simp [execOp, ho, h, asBool]) hf (he.evalT y)

theorem eval_const {a : Act} {v : Value} : a.eval (.const v) = v := rfl

theorem op_unOp {st : St} {a : Act} {o : Oper} {op : UnOp} {t : TypeId} {x : Operand} {d : D} (ho : o.op = .unOp op t x) (hf : FS c g st.L st.τ st.B w) (he : EnvR c g (dom st.L) st.τ.length w st.ρ a)
    (hd : unV op (eval st.ρ x) = some d) : OpOk c g st w a o d st := by
  have h := he.eval x
  unfold unV at hd
  split at hd
  · rename_i k n hx
    rw [hx] at h; have h := h.int_inv
    injection hd with hd; subst hd
    exact .pure (v := .int k (k.wrap (0 - n))) (by simp [execOp, ho, h, Op.unary, Op.intArith]) hf (.clean _ _ (.int _ _))
  · rename_i k n hx
    rw [hx] at h; have h := h.int_inv
    injection hd with hd; subst hd
    refine .pure (v := .int k (bitsV .xor k (if k.signed then -1 else k.max) n)) ?_ hf (.clean _ _ (.int _ _))
    have := bits_back .xor k (if k.signed then -1 else k.max) n w c.P (by simp)
    simp [execOp, ho, h, Op.unary, this]
  · rename_i b hx
    rw [hx] at h; have h := h.bool_inv
    injection hd with hd; subst hd
    exact .pure (v := .bool !b) (by simp [execOp, ho, h, Op.unary]) hf (.clean _ _ (.bool _))
  · cases hd

theorem op_extract {st : St} {a : Act} {o : Oper} {x : Operand} {i : Nat} {ds : List D} {d : D} (ho : o.op = .extract x i) (hf : FS c g st.L st.τ st.B w) (he : EnvR c g (dom st.L) st.τ.length w st.ρ a)
    (hx : eval st.ρ x = .tuple ds) (hd : ds[i]? = some d) : OpOk c g st w a o d st := by
  have h := he.eval x
  rw [hx] at h
  obtain ⟨vs, h, hl, hr⟩ := h.tuple_inv
  have hi := lt_of_get hd
  have hlt : i < vs.size := by omega
  have hv : vs[i]? = some vs[i] := Array.getElem?_eq_getElem hlt
  have hr' := hr i d hd
  have hg : vs.getD i Go.undef = vs[i] := by simp [Array.getD, hlt]
  rw [hg] at hr'
  exact .pure (v := vs[i]) (by simp only [execOp, ho, h, Instr.extract, hv]; rfl) hf hr'

end Go.Proofs.YtbbbhalmlboapaaDoor.V

/-
The operations on two values; fields and places of values; values as interfaces.
-/
namespace Go.Proofs.YtbbbhalmlboapaaDoor.V
set_option linter.unusedSimpArgs false
set_option linter.unusedVariables false
open Go Go.RowKit

variable {c : Cx} {g : Gh} {nL : Nat → Prop} {nT : Nat} {w : World}

section eqs
variable {P : Program} {t : TypeId}
theorem eqIn_nn {ms : Array (String × TypeId)} (hu : P.underlying t = some (.interface ms)) (d : Nat) : (Op.equalIn (d + 1) t .nilIface .nilIface).run P w = .ok true w := by
  simp [Op.equalIn, run_underlying hu]
theorem eqIn_in {ms : Array (String × TypeId)} (hu : P.underlying t = some (.interface ms)) (u : TypeId) (v : Value) (d : Nat) : (Op.equalIn (d + 1) t (.iface u v) .nilIface).run P w = .ok false w := by
  simp [Op.equalIn, run_underlying hu]
theorem eqIn_ni {ms : Array (String × TypeId)} (hu : P.underlying t = some (.interface ms)) (u : TypeId) (v : Value) (d : Nat) : (Op.equalIn (d + 1) t .nilIface (.iface u v)).run P w = .ok false w := by
  simp [Op.equalIn, run_underlying hu]
theorem eqIn_sl {e : TypeId} (hu : P.underlying t = some (.slice e)) (a : Option Addr) (l k : Nat) (d : Nat) : (Op.equalIn (d + 1) t (.slice a l k) (.slice none 0 0)).run P w = .ok a.isNone w := by
  cases a <;> simp [Op.equalIn, run_underlying hu]
theorem eqIn_pn {e : TypeId} (hu : P.underlying t = some (.pointer e)) (a : Option Addr) (d : Nat) : (Op.equalIn (d + 1) t (.pointer a) (.pointer none)).run P w = .ok a.isNone w := by
  cases a <;> simp [Op.equalIn, run_underlying hu]
theorem eqIn_bb (hu : P.underlying t = some .bool) (a b : Bool) (d : Nat) : (Op.equalIn (d + 1) t (.bool a) (.bool b)).run P w = .ok (a == b) w := by
  simp [Op.equalIn, run_underlying hu]
theorem eq_nn {ms : Array (String × TypeId)} (hu : P.underlying t = some (.interface ms)) : (Op.equal t .nilIface .nilIface).run P w = .ok true w := eqIn_nn hu 9999
theorem eq_in {ms : Array (String × TypeId)} (hu : P.underlying t = some (.interface ms)) (u : TypeId) (v : Value) : (Op.equal t (.iface u v) .nilIface).run P w = .ok false w := eqIn_in hu u v 9999
theorem eq_ni {ms : Array (String × TypeId)} (hu : P.underlying t = some (.interface ms)) (u : TypeId) (v : Value) : (Op.equal t .nilIface (.iface u v)).run P w = .ok false w := eqIn_ni hu u v 9999
theorem eq_sl {e : TypeId} (hu : P.underlying t = some (.slice e)) (a : Option Addr) (l k : Nat) : (Op.equal t (.slice a l k) (.slice none 0 0)).run P w = .ok a.isNone w := eqIn_sl hu a l k 9999
theorem eq_pn {e : TypeId} (hu : P.underlying t = some (.pointer e)) (a : Option Addr) : (Op.equal t (.pointer a) (.pointer none)).run P w = .ok a.isNone w := eqIn_pn hu a 9999
theorem eq_bb (hu : P.underlying t = some .bool) (a b : Bool) : (Op.equal t (.bool a) (.bool b)).run P w = .ok (a == b) w := eqIn_bb hu a b 9999
end eqs

theorem guard_ite {P : Program} (b : Bool) (s : Sem Unit) (h : s.run P w = .ok () w) : (if (!b) = true then (pure () : Sem Unit) else s).run P w = .ok () w := by
  cases b
  · rfl
  · exact h

theorem guard_nn {P : Program} {op : BinOp} {t : TypeId} {x y : Operand} (h : (isConst x || isConst y) = true) : (eqGuard op t x y .nilIface .nilIface).run P w = .ok () w := by
  unfold eqGuard
  refine guard_ite _ _ ?_
  cases x <;> cases y <;> first | rfl | (simp [isConst] at h)

theorem guard_agg {P : Program} {op : BinOp} {t : TypeId} {x y : Operand} (us vs : Array Value) (h : P.eqGuardType P.depth t = false) : (eqGuard op t x y (.agg us) (.agg vs)).run P w = .ok () w := by
  unfold eqGuard
  refine guard_ite _ _ ?_
  simp [h]

theorem op_bin_run {st : St} {a : Act} {o : Oper} {op : BinOp} {t u : TypeId} {x y : Operand} {d : D} (ho : o.op = .binOp op t x y u) (hf : FS c g st.L st.τ st.B w)
    {X Y : Value} (hx : a.eval x = X) (hy : a.eval y = Y) (hg : (eqGuard op t x y X Y).run c.P w = .ok () w) (h : ∃ v, (binOp op t X Y).run c.P w = .ok v w ∧ ∀ bx s w, Rep bx s w d v) : OpOk c g st w a o d st := by
  obtain ⟨v, hv, hr⟩ := h
  refine .pure (v := v) ?_ hf (.clean _ _ (hr _ _ _))
  simp [execOp, ho, hx, hy, hg, hv]

theorem Rep.fptr_val {bx : List Nat} {s : Nat → Nat} {ds : List D} {v : Value} (h : Rep bx s w (.fptr ds) v) : ∃ a, v = .pointer (some a) := by
  cases h with | fptr _ a => exact ⟨a, rfl⟩

theorem RepL.of_array {ds : List D} {vs : Array Value} (hl : ds.length = vs.size) (h : ∀ i d, ds[i]? = some d → RepF c g nL nT w d (vs.getD i Go.undef)) : RepL c g nL nT w ds vs.toList :=
  ⟨by simpa using hl, fun i d hi => by have := h i d hi; simpa [List.getD_eq_getElem?_getD] using this⟩

theorem op_agg {T : Tab} (hT : TabOk c.P T) {st : St} {a : Act} {o : Oper} {op : BinOp} {t u : TypeId} {x y : Operand} {d : D} (ho : o.op = .binOp op t x y u) (hf : FS c g st.L st.τ st.B w)
    {xs ys : List D} {us vs : Array Value} (hx : a.eval x = .agg us) (hy : a.eval y = .agg vs) {ti : TI} (ht : T t = some ti) (hagg : ti.agg = true)
    (hlx : xs.length = us.size) (hrx : ∀ i d, xs[i]? = some d → RepF c g (dom st.L) st.τ.length w d (us.getD i Go.undef)) (hly : ys.length = vs.size) (hry : ∀ i d, ys[i]? = some d → RepF c g (dom st.L) st.τ.length w d (vs.getD i Go.undef))
    (hd : binV.aggV T op t xs ys = some d) : OpOk c g st w a o d st := by
  unfold binV.aggV at hd
  rw [ht] at hd
  simp only at hd
  cases hb : (ti.cmp && Nat.beq xs.length ti.sz && Nat.beq ys.length ti.sz) with
  | false => simp [hb] at hd
  | true =>
    simp only [hb, cond_true] at hd
    simp only [Bool.and_eq_true] at hb
    cases h : eqT T 6 t xs ys with
    | none => simp [h] at hd
    | some b =>
      simp only [h] at hd
      obtain ⟨_, he⟩ := eqT_at hT 6 t xs ys b ti us.toList vs.toList h ht (RepL.of_array hlx hrx) (RepL.of_array hly hry)
      have he := he 9994
      simp only [valOf, hagg, if_true, Array.toArray_toList] at he
      exact op_bin_run ho hf hx hy (guard_agg us vs (hT.cmp t ti ht hb.1.1)) (run_binOp_eq hd w he (by simp) (by simp) (by simp) (by simp))

theorem op_binOp {T : Tab} (hT : TabOk c.P T) {st : St} {a : Act} {o : Oper} {op : BinOp} {t u : TypeId} {x y : Operand} {d : D} (ho : o.op = .binOp op t x y u) (hf : FS c g st.L st.τ st.B w)
    (he : EnvR c g (dom st.L) st.τ.length w st.ρ a) (hd : binV T op (isConst x || isConst y) t (eval st.ρ x) (eval st.ρ y) = some d) : OpOk c g st w a o d st := by
  have hx := he.eval x
  have hy := he.eval y
  generalize ex : eval st.ρ x = X at hx hd
  generalize ey : eval st.ρ y = Y at hy hd
  unfold binV at hd
  split at hd
  · obtain hx := hx.int_inv
    obtain hy := hy.int_inv
    refine op_bin_run ho hf hx hy (run_eqGuard_other _ _ _ _ _ _ _ trivial) ?_
    split at hd
    · split at hd
      · cases hd
      · rename_i hb; injection hd with hd; subst hd
        exact ⟨_, (run_shift t hb w).1, fun _ _ _ => .int _ _⟩
    · split at hd
      · cases hd
      · rename_i hb; injection hd with hd; subst hd
        exact ⟨_, (run_shift t hb w).2, fun _ _ _ => .int _ _⟩
    · rename_i h1 h2
      split at hd
      · rename_i hk; subst hk
        exact run_binOp_int t (fun e => h1 e) (fun e => h2 e) hd w
      · cases hd
  · obtain ⟨s, hx2, hs⟩ := hx.str_inv
    obtain ⟨s', hy2, hs'⟩ := hy.str_inv
    subst hs; subst hs'
    exact op_bin_run ho hf hx2 hy2 (run_eqGuard_other _ _ _ _ _ _ _ trivial) (run_binOp_str t hd w)
  · have htd : ∀ q, tdOf T t = q → q ≠ .other → ∃ ti, T t = some ti ∧ ti.d = q := by
      intro q hq hne
      unfold tdOf at hq
      cases hT' : T t with
      | none => simp [hT'] at hq; exact absurd hq.symm hne
      | some ti => simp [hT'] at hq; exact ⟨ti, rfl, hq⟩
    split at hd
    · rename_i hq
      obtain ⟨ti, ht, hti⟩ := htd _ hq (by simp)
      have hu : c.P.underlying t = some .bool := desc_of hT ht hti
      split at hd
      · obtain hx := hx.bool_inv
        obtain hy := hy.bool_inv
        exact op_bin_run ho hf hx hy (run_eqGuard_other _ _ _ _ _ _ _ trivial) (run_binOp_eq hd w (eq_bb hu _ _) (by simp) (by simp) (by simp) (by simp))
      · cases hd
    · rename_i hq
      obtain ⟨ti, ht, hti⟩ := htd _ hq (by simp)
      obtain ⟨ms, hu⟩ := desc_of hT ht hti
      split at hd
      · obtain hx := hx.nili_inv
        obtain hy := hy.nili_inv
        cases hl : (isConst x || isConst y) with
        | false => simp [hl] at hd
        | true =>
          simp only [hl, cond_true] at hd
          exact op_bin_run ho hf hx hy (guard_nn hl) (run_binOp_eq hd w (eq_nn hu) (by simp) (by simp) (by simp) (by simp))
      · obtain hx := hx.nili_inv
        obtain ⟨v, hy, _⟩ := hy.iface_inv
        exact op_bin_run ho hf hx hy (run_eqGuard_other _ _ _ _ _ _ _ trivial) (run_binOp_eq hd w (eq_ni hu _ _) (by simp) (by simp) (by simp) (by simp))
      · obtain ⟨v, hx, _⟩ := hx.iface_inv
        obtain hy := hy.nili_inv
        exact op_bin_run ho hf hx hy (run_eqGuard_other _ _ _ _ _ _ _ trivial) (run_binOp_eq hd w (eq_in hu _ _) (by simp) (by simp) (by simp) (by simp))
      · cases hd
    · rename_i hq
      obtain ⟨ti, ht, hti⟩ := htd _ hq (by simp)
      have hu := desc_of hT ht hti
      split at hd
      · obtain hx := hx.nilsl_inv
        obtain hy := hy.nilsl_inv
        exact op_bin_run ho hf hx hy (run_eqGuard_other _ _ _ _ _ _ _ trivial) (run_binOp_eq hd w (eq_sl hu _ _ _) (by simp) (by simp) (by simp) (by simp))
      · obtain ⟨ad, cap, hx2⟩ := hx.real_inv
        obtain hy := hy.nilsl_inv
        exact op_bin_run ho hf hx2 hy (run_eqGuard_other _ _ _ _ _ _ _ trivial) (run_binOp_eq hd w (eq_sl hu _ _ _) (by simp) (by simp) (by simp) (by simp))
      · obtain ⟨_, hx0⟩ | ⟨ad, cap, hx2, _⟩ := hx.vec_inv.vec_shape
        · cases hx0
        obtain hy := hy.nilsl_inv
        exact op_bin_run ho hf hx2 hy (run_eqGuard_other _ _ _ _ _ _ _ trivial) (run_binOp_eq hd w (eq_sl hu _ _ _) (by simp) (by simp) (by simp) (by simp))
      · obtain ⟨cap, hx, _⟩ := hx.lsl_inv
        obtain hy := hy.nilsl_inv
        exact op_bin_run ho hf hx hy (run_eqGuard_other _ _ _ _ _ _ _ trivial) (run_binOp_eq hd w (eq_sl hu _ _ _) (by simp) (by simp) (by simp) (by simp))
      · cases hd
    · rename_i hq
      obtain ⟨ti, ht, hti⟩ := htd _ hq (by simp)
      have hu := desc_of hT ht hti
      split at hd
      · obtain hx := hx.nilp_inv
        obtain hy := hy.nilp_inv
        exact op_bin_run ho hf hx hy (run_eqGuard_other _ _ _ _ _ _ _ trivial) (run_binOp_eq hd w (eq_pn hu _) (by simp) (by simp) (by simp) (by simp))
      · obtain ⟨ad, hx2⟩ := hx.fptr_inv.fptr_val
        obtain hy := hy.nilp_inv
        exact op_bin_run ho hf hx2 hy (run_eqGuard_other _ _ _ _ _ _ _ trivial) (run_binOp_eq hd w (eq_pn hu _) (by simp) (by simp) (by simp) (by simp))
      · obtain ⟨hx, _⟩ := hx.lptr_inv
        obtain hy := hy.nilp_inv
        exact op_bin_run ho hf hx hy (run_eqGuard_other _ _ _ _ _ _ _ trivial) (run_binOp_eq hd w (eq_pn hu _) (by simp) (by simp) (by simp) (by simp))
      · obtain ⟨_, _, hx⟩ := hx.bptr_inv
        obtain hy := hy.nilp_inv
        exact op_bin_run ho hf hx hy (run_eqGuard_other _ _ _ _ _ _ _ trivial) (run_binOp_eq hd w (eq_pn hu _) (by simp) (by simp) (by simp) (by simp))
      · cases hd
    · rename_i hq
      obtain ⟨ti, ht, hti⟩ := htd _ hq (by simp)
      split at hd
      · obtain ⟨us, hx2, hlx, hrx⟩ := hx.agg_inv
        obtain ⟨vs, hy2, hly, hry⟩ := hy.agg_inv
        exact op_agg hT ho hf hx2 hy2 ht (by simp [TI.agg, hti]) hlx hrx hly hry hd
      · cases hd
    · rename_i hq
      obtain ⟨ti, ht, hti⟩ := htd _ hq (by simp)
      split at hd
      · obtain ⟨us, hx2, hlx, hrx⟩ := hx.agg_inv
        obtain ⟨vs, hy2, hly, hry⟩ := hy.agg_inv
        exact op_agg hT ho hf hx2 hy2 ht (by simp [TI.agg, hti]) hlx hrx hly hry hd
      · cases hd
    · cases hd

end Go.Proofs.YtbbbhalmlboapaaDoor.V

/-
The operations on memory of the frame's own: new variables, loads, stores.
-/
namespace Go.Proofs.YtbbbhalmlboapaaDoor.V
set_option linter.unusedSimpArgs false
set_option linter.unusedVariables false
open Go Go.RowKit

variable {c : Cx} {g : Gh} {nL : Nat → Prop} {nT : Nat} {w : World}

theorem cells_leaf {d : D} (h : d.cells.all D.leaf = true) : d.solid := by
  cases d <;> simp_all [D.cells, D.leaf, D.solid]

theorem getD_some {vs : Array Value} {i : Nat} (h : i < vs.size) : vs[i]? = some (vs.getD i Go.undef) := by
  simp [Array.getD, h]

theorem RepF.cells_at {d : D} {v : Value} (hd : d.solid) (h : RepF c g nL nT w d v) {j : Nat} {e : D} (hj : d.cells[j]? = some e) :
    ∃ u, v.cells[j]? = some u ∧ RepF c g nL nT w e u := by
  obtain ⟨hl, hr⟩ := h.cells_of hd
  have := lt_of_get hj
  exact ⟨_, getD_some (by omega), hr j e hj⟩

theorem Rep.cells_at {bx : List Nat} {s : Nat → Nat} {d : D} {v : Value} (h : Rep bx s w d v) {j : Nat} {e : D} (hj : d.cells[j]? = some e) : ∃ u, v.cells[j]? = some u ∧ Rep bx s w e u := by
  cases h with
  | agg ds vs hl h =>
    have := lt_of_get hj
    exact ⟨_, getD_some (by simp [D.cells] at this; simp [Value.cells]; omega), h j e hj⟩
  | _ =>
    simp only [D.cells] at hj
    cases j with
    | zero => simp at hj; subst hj; exact ⟨_, rfl, by constructor <;> assumption⟩
    | succ j => simp at hj

theorem Rep.cells_len {bx : List Nat} {s : Nat → Nat} {d : D} {v : Value} (h : Rep bx s w d v) : d.cells.length = v.cells.size := by
  cases h <;> first | rfl | (simp [D.cells, Value.cells]; assumption)

theorem op_alloc {T : Tab} (hT : TabOk c.P T) {st : St} {a : Act} {o : Oper} {e : TypeId} {ti : TI} (ho : o.op = .alloc e) (hf : FS c g st.L st.τ st.B w) (ht : T e = some ti) :
    OpOk c g st w a o (.lptr st.L.length 0) { st with L := st.L ++ [some ti.zero.cells] } := by
  obtain ⟨z, hz, hr⟩ := run_zero' hT ht
  obtain ⟨h1, h2⟩ := hf.alloc_box z.cells e (0, 0) ti.zero.cells (nofr_zero _) (fun j d hj => by
    obtain ⟨u, hu, hru⟩ := (hr g.bx g.s w).cells_at hj
    exact ⟨u, hu, .clean _ _ hru⟩)
  refine .value (v := .pointer (some ⟨w.heap.size, 0, none⟩)) ?_ h1 h2 ?_
  · simp [execOp, ho, Instr.alloc, hz, newVar, newRow, newObj, Sem.run]
  · have : (g.newL st.L.length w.heap.size).loc st.L.length = w.heap.size := by simp [Gh.newL]
    have h3 := RepF.lptr (c := c) (g := g.newL st.L.length w.heap.size) (nL := dom (st.L ++ [some ti.zero.cells])) (nT := st.τ.length) (w := w.alloc (.cells z.cells e)) st.L.length 0 (dom_new _ _)
    rw [this] at h3; exact h3

theorem op_alloc_at {T : Tab} (hT : TabOk c.P T) {st : St} {a : Act} {o : Oper} {e : TypeId} {ti : TI} {k : Nat} (hk : ¬ dom st.L k) (ho : o.op = .alloc e) (hf : FS c g st.L st.τ st.B w) (ht : T e = some ti) :
    OpOk c g st w a o (.lptr k 0) { st with L := ins st.L k ti.zero.cells } := by
  obtain ⟨z, hz, hr⟩ := run_zero' hT ht
  obtain ⟨h1, h2⟩ := hf.alloc_at k hk z.cells e (0, 0) ti.zero.cells (nofr_zero _) (fun j d hj => by
    obtain ⟨u, hu, hru⟩ := (hr g.bx g.s w).cells_at hj
    exact ⟨u, hu, .clean _ _ hru⟩)
  refine .value (v := .pointer (some ⟨w.heap.size, 0, none⟩)) ?_ h1 h2 ?_
  · simp [execOp, ho, Instr.alloc, hz, newVar, newRow, newObj, Sem.run]
  · have : (g.newL k w.heap.size).loc k = w.heap.size := by simp [Gh.newL]
    have h3 := RepF.lptr (c := c) (g := g.newL k w.heap.size) (nL := dom (ins st.L k ti.zero.cells)) (nT := st.τ.length) (w := w.alloc (.cells z.cells e)) k 0 (dom_ins.2 (.inl rfl))
    rw [this] at h3; exact h3

theorem global_clean {d : D} (hd : d.global = true) {v : Value} (h : RepF c g nL nT w d v) : Rep g.bx g.s w d v := by
  cases h with
  | clean _ _ h => exact h
  | _ => simp [D.global] at hd

theorem demote_whole {d e : D} (h : d.demote = some e) : e.whole = true ∧ e.cells.length = d.cells.length := by
  cases d <;> simp only [D.demote] at h
  case vec sz xs p => injection h with h; subst h; exact ⟨rfl, rfl⟩
  all_goals
    first
    | (cases hg : D.global _ with
       | false => rw [hg] at h; simp at h
       | true => rw [hg] at h; simp at h; subst h; first | exact ⟨rfl, rfl⟩ | (simp [D.global] at hg))

theorem demote_clean {d e : D} (h : d.demote = some e) {v : Value} (hr : RepF c g nL nT w d v) : Rep g.bx g.s w e v := by
  cases d <;> simp only [D.demote] at h
  case vec sz xs p => injection h with h; subst h; exact hr.vec_inv
  all_goals
    cases hg : D.global _ with
    | false => rw [hg] at h; simp at h
    | true =>
      rw [hg] at h; simp at h; subst h
      exact global_clean hg hr

theorem demoteL_spec : ∀ {ds es : List D}, demoteL ds = some es → ds.length = es.length ∧ ∀ (i : Nat) (e : D), es[i]? = some e → ∃ d, ds[i]? = some d ∧ d.demote = some e
  | [], es, h => by simp [demoteL] at h; subst h; exact ⟨rfl, fun i e hi => by simp at hi⟩
  | d :: ds, es, h => by
    simp only [demoteL] at h
    split at h
    · rename_i y hy
      split at h
      · rename_i ys hys
        injection h with h; subst h
        obtain ⟨h1, h2⟩ := demoteL_spec hys
        refine ⟨by simp [h1], fun i e hi => ?_⟩
        cases i with
        | zero => simp at hi; subst hi; exact ⟨d, rfl, hy⟩
        | succ i => simp at hi; obtain ⟨d', h3, h4⟩ := h2 i e hi; exact ⟨d', by simpa using h3, h4⟩
      · cases h
    · cases h

/-- A variable that all share. -/
theorem op_alloc_shared {T : Tab} (hT : TabOk c.P T) {st : St} {a : Act} {o : Oper} {e : TypeId} {ti : TI} (ho : o.op = .alloc e) (hf : FS c g st.L st.τ st.B w) (ht : T e = some ti) :
    OpOk c g st w a o (.bptr st.B.length 0) { st with B := st.B ++ [ti.zero.cells] } := by
  obtain ⟨z, hz, hr⟩ := run_zero' hT ht
  obtain ⟨h1, h2⟩ := hf.alloc_shared z.cells e (0, 0) ti.zero.cells (nofr_zero _) (fun j d hj => by
    obtain ⟨u, hu, hru⟩ := (hr g.bx g.s w).cells_at hj
    exact ⟨u, hu, hru⟩)
  refine .value (v := .pointer (some ⟨w.heap.size, 0, none⟩)) ?_ h1 h2 ?_
  · simp [execOp, ho, Instr.alloc, hz, newVar, newRow, newObj, Sem.run]
  · exact .clean _ _ (.bptr _ _ _ (by rw [hf.nB]; simp [Gh.newB]))

/-- What is laid and never changed. -/
theorem op_box_frozen {T : Tab} {st : St} {a : Act} {o : Oper} {e : TypeId} {x : Operand} {ds : List D} (ho : o.op = .box e x) (hf : FS c g st.L st.τ st.B w) (he : EnvR c g (dom st.L) st.τ.length w st.ρ a)
    (hl : (evalT T e st.ρ x).cells.all D.leaf = true) (hd : demoteL (evalT T e st.ρ x).cells = some ds) : OpOk c g st w a o (.fptr ds) st := by
  have hx := he.evalT (T := T) (t := e) x
  obtain ⟨hlen, hdm⟩ := demoteL_spec hd
  have hsz : (evalT T e st.ρ x).cells.length = (a.eval x).cells.size := (hx.cells_of (cells_leaf hl)).1
  obtain ⟨h1, h2⟩ := hf.alloc_stable (a.eval x).cells e (a.eval x).cells.size
  have hrep : ∀ (i : Nat) (d : D), ds[i]? = some d → ∃ v : Value, (a.eval x).cells[i]? = some v ∧ Rep g.bx g.s w d v := fun i d hi => by
    obtain ⟨d0, hd0, hdd⟩ := hdm i d hi
    obtain ⟨v, hv, hr⟩ := hx.cells_at (cells_leaf hl) hd0
    exact ⟨v, hv, demote_clean hdd hr⟩
  refine .value (v := .pointer (some ⟨w.heap.size, 0, none⟩)) ?_ h1 h2 (.clean _ _ (.fptr ds _ (fun i => (a.eval x).cells.getD i Go.undef) (fun i d hi => ?_) (fun i d hi => ?_) (fun _ => ?_)))
  · simp [execOp, ho, Instr.box, newVar, newRow, newObj, Sem.run]
  · obtain ⟨v, hv, _⟩ := hrep i d hi
    rw [add_plain]
    have hnew := heap_alloc_new w (.cells (a.eval x).cells e)
    have e1 : (a.eval x).cells.getD i Go.undef = v := by simp [Array.getD_eq_getD_getElem?, hv]
    rw [e1]
    simp only [World.cell?, hnew, Nat.zero_add]
    simpa using hv
  · obtain ⟨v, hv, hr⟩ := hrep i d hi
    have e1 : (a.eval x).cells.getD i Go.undef = v := by simp [Array.getD_eq_getD_getElem?, hv]
    rw [e1]; exact hr.mono h2.ev
  · show 0 + ds.length ≤ (g.withS w.heap.size (a.eval x).cells.size).s w.heap.size
    simp [Gh.withS]; omega

/-- What is laid, and all share. -/
theorem op_box_shared {T : Tab} {st : St} {a : Act} {o : Oper} {e : TypeId} {x : Operand} {ds : List D} (ho : o.op = .box e x) (hf : FS c g st.L st.τ st.B w) (he : EnvR c g (dom st.L) st.τ.length w st.ρ a)
    (hl : (evalT T e st.ρ x).cells.all D.leaf = true) (hd : demoteL (evalT T e st.ρ x).cells = some ds) : OpOk c g st w a o (.bptr st.B.length 0) { st with B := st.B ++ [ds] } := by
  have hx := he.evalT (T := T) (t := e) x
  obtain ⟨hlen, hdm⟩ := demoteL_spec hd
  obtain ⟨h1, h2⟩ := hf.alloc_shared (a.eval x).cells e (0, 0) ds (nofr_zero _) (fun j d hj => by
    obtain ⟨d0, hd0, hdd⟩ := hdm j d hj
    obtain ⟨v, hv, hr⟩ := hx.cells_at (cells_leaf hl) hd0
    exact ⟨v, hv, demote_clean hdd hr⟩)
  refine .value (v := .pointer (some ⟨w.heap.size, 0, none⟩)) ?_ h1 h2 ?_
  · simp [execOp, ho, Instr.box, newVar, newRow, newObj, Sem.run]
  · exact .clean _ _ (.bptr _ _ _ (by rw [hf.nB]; simp [Gh.newB]))

theorem op_box {T : Tab} {st : St} {a : Act} {o : Oper} {e : TypeId} {x : Operand} (ho : o.op = .box e x) (hf : FS c g st.L st.τ st.B w) (he : EnvR c g (dom st.L) st.τ.length w st.ρ a)
    (hl : (evalT T e st.ρ x).cells.all D.leaf = true) :
    OpOk c g st w a o (.lptr st.L.length 0) { st with L := st.L ++ [some (evalT T e st.ρ x).cells] } := by
  have hx := he.evalT (T := T) (t := e) x
  obtain ⟨h1, h2⟩ := hf.alloc_box (a.eval x).cells e (0, 0) (evalT T e st.ρ x).cells (nofr_zero _) (fun j d hj => hx.cells_at (cells_leaf hl) hj)
  refine .value (v := .pointer (some ⟨w.heap.size, 0, none⟩)) ?_ h1 h2 ?_
  · simp [execOp, ho, Instr.box, newVar, newRow, newObj, Sem.run]
  · have : (g.newL st.L.length w.heap.size).loc st.L.length = w.heap.size := by simp [Gh.newL]
    have h3 := RepF.lptr (c := c) (g := g.newL st.L.length w.heap.size) (nL := dom (st.L ++ [some (evalT T e st.ρ x).cells])) (nT := st.τ.length) (w := w.alloc (.cells (a.eval x).cells e)) st.L.length 0 (dom_new _ _)
    rw [this] at h3; exact h3

/-- Where a pointer leads. -/
theorem at_spec {st : St} {p : D} {v : Value} {ds : List D} {off : Nat} (hf : FS c g st.L st.τ st.B w) (h : st.at_ p = some (ds, off)) (hr : RepF c g (dom st.L) st.τ.length w p v) :
    ∃ a, v = .pointer (some a) ∧ ∀ j d, ds[off + j]? = some d → ∃ u, w.cell? (a.add j) = some u ∧ RepF c g (dom st.L) st.τ.length w d u := by
  cases p <;> simp only [St.at_] at h <;> try (cases h; done)
  case lptr i o =>
    split at h
    · rename_i es hL
      injection h with h; injection h with h1 h2; subst h1; subst h2
      obtain ⟨rfl, hi⟩ := hr.lptr_inv
      refine ⟨_, rfl, fun j d hj => ?_⟩
      obtain ⟨_, cs, t, fr, hh, _, hc⟩ := hf.boxL i _ hL
      obtain ⟨u, hu, hru⟩ := hc _ d hj
      exact ⟨u, by rw [add_plain]; simp [World.cell?, hh, hu], hru⟩
    · cases h
  case bptr i o =>
    split at h
    · rename_i es hB
      injection h with h; injection h with h1 h2; subst h1; subst h2
      obtain ⟨k, hk, rfl⟩ := hr.bptr_inv
      refine ⟨_, rfl, fun j d hj => ?_⟩
      obtain ⟨_, cs, t, fr, hh, _, hc⟩ := hf.boxB i _ k hB hk
      obtain ⟨u, hu, hru⟩ := hc _ d hj
      exact ⟨u, by rw [add_plain]; simp [World.cell?, hh, hu], .clean _ _ hru⟩
    · cases h
  case fptr es =>
    injection h with h; injection h with h1 h2; subst h1; subst h2
    have := hr.fptr_inv
    cases this with
    | fptr _ a vs hc hr2 hs => exact ⟨a, rfl, fun j d hj => by simp at hj; exact ⟨vs j, hc j d hj, .clean _ _ (hr2 j d hj)⟩⟩

theorem run_loadVar {P : Program} {T : Tab} (hT : TabOk P T) {t : TypeId} {ti : TI} (ht : T t = some ti) (a : Addr) (f : Nat → Value) (h : ∀ j, j < ti.sz → w.cell? (a.add j) = some (f j)) (hs : ti.agg = true ∨ ti.sz = 1) :
    (loadVar t a).run P w = .ok (if ti.agg then .agg ((List.range ti.sz).map f).toArray else f 0) w := by
  rcases Bool.eq_false_or_eq_true ti.agg with ha | ha
  · have := run_loadCells (P := P) w a ti.sz f h
    simp [loadVar, run_isAgg hT ht, ha, run_sizeOf' hT ht, this]
  · have h0 := h 0 (by have := hs.resolve_left (by simp [ha]); omega)
    have e0 : a.add 0 = a := rfl
    rw [e0] at h0
    simp [loadVar, run_isAgg hT ht, ha, run_load, h0]

theorem load_spec {T : Tab} (hT : TabOk c.P T) {st : St} {t : TypeId} {x d : D} {v : Value} (hf : FS c g st.L st.τ st.B w) (hx : RepF c g (dom st.L) st.τ.length w x v)
    (hd : loadV T st t x = some d) : ∃ ad u, v = .pointer (some ad) ∧ (loadVar t ad).run c.P w = .ok u w ∧ RepF c g (dom st.L) st.τ.length w d u := by
  unfold loadV at hd
  split at hd
  · rename_i ti ds off ht hat
    obtain ⟨ad, hv, hc⟩ := at_spec hf hat hx
    cases hs : (ti.agg || Nat.beq ti.sz 1) with
    | false => simp [hs] at hd
    | true =>
      simp only [hs, cond_true] at hd
      have hs' : ti.agg = true ∨ ti.sz = 1 := by
        simp only [Bool.or_eq_true] at hs; exact hs.imp id (fun h => Nat.eq_of_beq_eq_true h)
      unfold loadC at hd
      split at hd
      · rename_i hl
        let f : Nat → Value := fun j => ((w.cell? (ad.add j)).getD Go.undef)
        have hcell : ∀ j, j < ti.sz → w.cell? (ad.add j) = some (f j) := fun j hj => by
          obtain ⟨u, hu, _⟩ := hc j _ (List.getElem?_eq_getElem (by omega))
          simp [f, hu]
        have hrep : ∀ j d, ds[off + j]? = some d → RepF c g (dom st.L) st.τ.length w d (f j) := fun j d hj => by
          obtain ⟨u, hu, hr⟩ := hc j d hj
          simpa [f, hu] using hr
        have hrun := run_loadVar (w := w) hT ht ad f hcell hs'
        refine ⟨ad, if ti.agg then .agg ((List.range ti.sz).map f).toArray else f 0, hv, hrun, ?_⟩
        rcases Bool.eq_false_or_eq_true ti.agg with ha | ha
        · simp only [ha, cond_true, Option.some.injEq] at hd
          subst hd
          simp only [ha, if_true]
          refine .agg _ _ (by simp; omega) (fun i d hi => ?_)
          have hlt := lt_of_get hi
          simp at hlt
          rw [List.getElem?_take_of_lt (by omega), List.getElem?_drop] at hi
          have := hrep i d hi
          have hi' : i < ti.sz := by omega
          simpa [Array.getD, hi'] using this
        · simp only [ha, cond_false] at hd
          simp only [ha]
          exact hrep 0 d (by simpa using hd)
      · cases hd
  · cases hd

theorem op_load {T : Tab} (hT : TabOk c.P T) {st : St} {a : Act} {o : Oper} {t : TypeId} {x : Operand} {d : D} (ho : o.op = .load t x) (hf : FS c g st.L st.τ st.B w) (he : EnvR c g (dom st.L) st.τ.length w st.ρ a)
    (hd : loadV T st t (eval st.ρ x) = some d) : OpOk c g st w a o d st := by
  obtain ⟨ad, u, hv, hrun, hr⟩ := load_spec hT hf (he.eval x) hd
  refine .pure (v := u) ?_ hf hr
  simp only [execOp, ho, Instr.loadAt, hv, Instr.sureAddr]
  exact run_value _ _ _ _ _ (by simpa using hrun)

theorem setC_get (ds : List D) (off : Nat) (cs : List D) (h : off + cs.length ≤ ds.length) (j : Nat) : (setC ds off cs)[j]? = if off ≤ j ∧ j < off + cs.length then cs[j - off]? else ds[j]? := by
  unfold setC
  have h1 : (ds.take off).length = off := by simp; omega
  by_cases hj : j < off
  · rw [if_neg (by omega), List.append_assoc, List.getElem?_append_left (by omega), List.getElem?_take_of_lt hj]
  · by_cases hj2 : j < off + cs.length
    · rw [if_pos (by omega), List.getElem?_append_left (by simp; omega), List.getElem?_append_right (by omega), h1]
    · rw [if_neg (by omega), List.getElem?_append_right (by simp; omega), List.getElem?_drop]
      congr 1; simp; omega

theorem beq_of {a b : Nat} (h : Nat.beq a b = true) : a = b := Nat.eq_of_beq_eq_true h

theorem op_store {T : Tab} (hT : TabOk c.P T) {st st' : St} {a : Act} {o : Oper} {t : TypeId} {p x : Operand} (ho : o.op = .store t p x) (hf : FS c g st.L st.τ st.B w) (he : EnvR c g (dom st.L) st.τ.length w st.ρ a)
    (hd : storeV T st t (eval st.ρ p) (evalT T t st.ρ x) = some st') : OpOk c g st w a o (.tuple []) st' := by
  have hp := he.eval p
  have hx := he.evalT (T := T) (t := t) x
  generalize evalT T t st.ρ x = X at hx hd
  unfold storeV at hd
  split at hd
  · rename_i ti ht
    cases hs : (Nat.beq X.cells.length ti.sz && X.cells.all D.leaf) with
    | false => simp [hs] at hd
    | true =>
      simp only [hs, cond_true] at hd
      simp only [Bool.and_eq_true] at hs
      have hsz := beq_of hs.1
      have hleaf := hs.2
      have hxm := cells_leaf hleaf
      obtain ⟨hxl, hxr⟩ := hx.cells_of hxm
      have hone : ∀ v, v ∈ (a.eval x).cells.toList → v.oneCell' = true := fun v hv => by
        obtain ⟨j, hj⟩ := List.getElem?_of_mem hv
        have hlt := lt_of_get hj
        simp at hlt
        have hd := hxr j _ (List.getElem?_eq_getElem (by omega : j < X.cells.length))
        have hl2 := List.all_eq_true.1 hleaf _ (List.getElem_mem (by omega : j < X.cells.length))
        have hv2 : (a.eval x).cells.getD j Go.undef = v := by
          have := getD_some hlt
          simp at hj
          simp [Array.getD, hlt]
          rw [Array.getElem?_eq_getElem hlt] at hj
          exact Option.some.inj hj
        rw [hv2] at hd
        exact (RepF.leaf_cells hl2 hd).2
      have hrun : ∀ (k off : Nat) (cs : Array Value) (t' : TypeId) (fr : Nat × Nat), w.heap[k]? = some (.cells cs t' fr) → nofr fr cs.size → off + ti.sz ≤ cs.size → a.eval p = .pointer (some ⟨k, off, none⟩) →
          ∃ (w' : World) (cs' : Array Value), (execOp a.eval o).run c.P w = .ok .skip w' ∧ w'.heap[k]? = some (.cells cs' t' fr) ∧ cs'.size = cs.size ∧
            (∀ j : Nat, cs'[j]? = if off ≤ j ∧ j < off + ti.sz then (a.eval x).cells[j - off]? else cs[j]?) ∧
            (∀ q, q ≠ k → w'.heap[q]? = w.heap[q]?) ∧ w'.heap.size = w.heap.size ∧ w'.os = w.os ∧ w'.tape = w.tape ∧ w'.output = w.output := by
        intro k off cs t' fr hh hfr hfit hpv
        have hlen : (a.eval x).cells.toList.length = ti.sz := by simp; omega
        obtain ⟨w', cs', b1, b2, b3, b4, b5, b6, b7, b8, b9⟩ := run_storeCells_gen c.P k t' fr cs.size hfr (a.eval x).cells.toList off 0 cs w hh rfl (by omega) hone
        refine ⟨w', cs', ?_, b2, b3, fun j => ?_, b5, b6, b7, b8, b9⟩
        · have e1 : (a.eval x).cells.size = ti.sz := by simpa using hlen
          simp [execOp, ho, Instr.storeAt, hpv, Instr.sureAddr, storeVar, run_sizeOf' hT ht, e1, b1]
        · rw [b4 j, hlen]; simp
      split at hd
      · rename_i i off hpe
        split at hd
        · rename_i ds hL
          split at hd
          · rename_i hfit
            injection hd with hd; subst hd
            rw [hpe] at hp
            obtain ⟨hpv, hi⟩ := hp.lptr_inv
            obtain ⟨_, cs, t', fr, hh, hfr, hc⟩ := hf.boxL i ds hL
            have hcsz : ds.length ≤ cs.size := by
              rcases Nat.eq_zero_or_pos ds.length with h0 | h0
              · omega
              · obtain ⟨v, hv, _⟩ := hc (ds.length - 1) _ (List.getElem?_eq_getElem (by omega))
                have := (Array.getElem?_eq_some_iff.1 hv).1; omega
            obtain ⟨w', cs', b1, b2, b3, b4, b5, b6, b7, b8, b9⟩ := hrun (g.loc i) off cs t' fr hh hfr (by omega) hpv
            obtain ⟨h1, h2⟩ := hf.set_box hL w' b5 b6 b7 b8 b9 (setC ds off X.cells) ⟨cs', t', fr, b2, by rw [b3]; exact hfr, fun j d hj => by
              rw [setC_get ds off _ (by omega) j] at hj
              rw [b4 j]
              by_cases hin : off ≤ j ∧ j < off + X.cells.length
              · rw [if_pos hin] at hj
                rw [if_pos (by omega)]
                exact hx.cells_at hxm hj
              · rw [if_neg hin] at hj
                rw [if_neg (by omega)]
                exact hc j d hj⟩
            exact .skip b1 h1 h2
          · cases hd
        · cases hd
      · rename_i i off hpe
        split at hd
        · rename_i ds hB
          split at hd
          · rename_i hfit
            cases hgl : X.cells.all D.global with
            | false => simp [hgl] at hd
            | true =>
              simp only [hgl, cond_true, Option.some.injEq] at hd
              subst hd
              rw [hpe] at hp
              obtain ⟨k0, hk0, hpv⟩ := hp.bptr_inv
              obtain ⟨_, cs, t', fr, hh, hfr, hc⟩ := hf.boxB i ds k0 hB hk0
              have hcsz : ds.length ≤ cs.size := by
                rcases Nat.eq_zero_or_pos ds.length with h0 | h0
                · omega
                · obtain ⟨v, hv, _⟩ := hc (ds.length - 1) _ (List.getElem?_eq_getElem (by omega))
                  have := (Array.getElem?_eq_some_iff.1 hv).1; omega
              obtain ⟨w', cs', b1, b2, b3, b4, b5, b6, b7, b8, b9⟩ := hrun k0 off cs t' fr hh hfr (by omega) hpv
              obtain ⟨h1, h2⟩ := hf.set_glob hB hk0 w' b5 b6 b7 b8 b9 (setC ds off X.cells) ⟨cs', t', fr, b2, by rw [b3]; exact hfr, fun j d hj => by
                rw [setC_get ds off _ (by omega) j] at hj
                rw [b4 j]
                by_cases hin : off ≤ j ∧ j < off + X.cells.length
                · rw [if_pos hin] at hj
                  rw [if_pos (by omega)]
                  obtain ⟨u, hu, hru⟩ := hx.cells_at hxm hj
                  have hgd : d.global = true := List.all_eq_true.1 hgl _ (List.mem_of_getElem? hj)
                  refine ⟨u, hu, ?_⟩
                  cases hru with
                  | clean _ _ h => exact h
                  | _ => simp [D.global] at hgd
                · rw [if_neg hin] at hj
                  rw [if_neg (by omega)]
                  exact hc j d hj⟩
              exact .skip b1 h1 h2
          · cases hd
        · cases hd
      · cases hd
  · cases hd

end Go.Proofs.YtbbbhalmlboapaaDoor.V
