/-
The tables of types; what a value must be, by what is told of it; the operations that touch no memory.
-/
import Derived.Test.YtploddijjofphaaDoorUE
namespace Go.Proofs.YtploddijjofphaaDoor.V
set_option linter.unusedSimpArgs false
set_option linter.unusedVariables false
open Go Go.RowKit

/-! ### Types -/
def DescOk (P : Program) (t : TypeId) : TD → Prop
  | .bool => P.underlying t = some .bool
  | .int k => P.underlying t = some (.int k)
  | .str => P.underlying t = some .string
  | .ptr e => P.underlying t = some (.pointer e)
  | .slice e => P.underlying t = some (.slice e)
  | .array n e => P.underlying t = some (.array n e)
  | .struct fs => ∃ fields : Array Field, P.underlying t = some (.struct fields) ∧ fields.toList.map (fun f => (f.offset, f.type)) = fs ∧ ∀ f, f ∈ fields.toList → f.name ≠ "_"
  | .iface => ∃ ms, P.underlying t = some (.interface ms)
  | .func => ∃ a b v, P.underlying t = some (.func a b v)
  | .other => ∃ d, P.underlying t = some d ∧ (∀ fs, d ≠ .struct fs) ∧ ∀ n e, d ≠ .array n e

structure TabOk (P : Program) (T : Tab) : Prop where
  desc : ∀ t ti, T t = some ti → DescOk P t ti.d
  info : ∀ t ti, T t = some ti → ∃ (i : TypeInfo) (z : Value), P.info? t = some i ∧ i.size = ti.sz ∧ i.bytes = ti.bytes ∧ i.zero = some z ∧ ∀ bx s w, Rep bx s w ti.zero z
  cmp : ∀ t ti, T t = some ti → ti.cmp = true → P.eqGuardType P.depth t = false
  held : ∀ t ti, T t = some ti → ti.cmp = true → P.stoodInHeld t = false
  zlen : ∀ t ti, T t = some ti → ti.zero.cells.length = ti.sz
  zleaf : ∀ t ti, T t = some ti → ti.zero.cells.all D.leaf = true
  flds : ∀ t ti fs, T t = some ti → ti.d = .struct fs → ∀ f, f ∈ fs → ∃ i, P.info? f.2 = some i

theorem run_isAgg {P : Program} {T : Tab} (h : TabOk P T) {t : TypeId} {ti : TI} (ht : T t = some ti) (w : World) : (isAgg t).run P w = .ok ti.agg w := by
  have hd := h.desc t ti ht
  unfold isAgg TI.agg
  cases hti : ti.d <;> rw [hti] at hd <;> simp only [DescOk] at hd
  case struct fs => obtain ⟨fields, hu, _⟩ := hd; simp [run_underlying hu]
  case iface => obtain ⟨ms, hu⟩ := hd; simp [run_underlying hu]
  case func => obtain ⟨x, y, z, hu⟩ := hd; simp [run_underlying hu]
  case other =>
    obtain ⟨d, hu, h1, h2⟩ := hd
    cases d <;> simp_all [run_underlying hu]
  all_goals simp [run_underlying hd]

theorem run_sizeOf' {P : Program} {T : Tab} (h : TabOk P T) {t : TypeId} {ti : TI} (ht : T t = some ti) (w : World) : (sizeOf t).run P w = .ok ti.sz w := by
  obtain ⟨i, z, hi, hs, _⟩ := h.info t ti ht
  simp [sizeOf, typeInfo, hi, hs]

theorem run_zero' {P : Program} {T : Tab} (h : TabOk P T) {t : TypeId} {ti : TI} (ht : T t = some ti) : ∃ z, (∀ w, (zeroValue t).run P w = .ok z w) ∧ ∀ bx s w, Rep bx s w ti.zero z := by
  obtain ⟨i, z, hi, _, _, hz, hr⟩ := h.info t ti ht
  exact ⟨z, fun w => by simp [zeroValue, typeInfo, hi, hz], hr⟩

/-! ### What a value must be -/
variable {c : Cx} {g : Gh} {nL : Nat → Prop} {nT : Nat} {w : World}

theorem RepF.int_inv {k : IntKind} {n : Int} {v : Value} (h : RepF c g nL nT w (.int k n) v) : v = .int k n := by
  cases h with | clean _ _ h => cases h; rfl
theorem RepF.bool_inv {b : Bool} {v : Value} (h : RepF c g nL nT w (.bool b) v) : v = .bool b := by
  cases h with | clean _ _ h => cases h; rfl
theorem RepF.str_inv {l : List UInt8} {v : Value} (h : RepF c g nL nT w (.str l) v) : ∃ s, v = .string s ∧ s.data.toList = l := by
  cases h with | clean _ _ h => cases h; exact ⟨_, rfl, rfl⟩
theorem RepF.nilp_inv {v : Value} (h : RepF c g nL nT w .nilp v) : v = .pointer none := by
  cases h with | clean _ _ h => cases h; rfl
theorem RepF.nili_inv {v : Value} (h : RepF c g nL nT w .nili v) : v = .nilIface := by
  cases h with | clean _ _ h => cases h; rfl
theorem RepF.nilsl_inv {v : Value} (h : RepF c g nL nT w .nilsl v) : v = .slice none 0 0 := by
  cases h with | clean _ _ h => cases h; rfl
theorem RepF.lptr_inv {i off : Nat} {v : Value} (h : RepF c g nL nT w (.lptr i off) v) : v = .pointer (some ⟨g.loc i, off, none⟩) ∧ nL i := by
  cases h with
  | clean _ _ h => cases h
  | lptr _ _ hi => exact ⟨rfl, hi⟩
theorem RepF.lsl_inv {i off len sz : Nat} {v : Value} (h : RepF c g nL nT w (.lsl i off len sz) v) : ∃ cap, v = .slice (some ⟨g.loc i, off, none⟩) len cap ∧ nL i ∧ len ≤ cap := by
  cases h with
  | clean _ _ h => cases h
  | lsl _ _ _ _ cap hi hc => exact ⟨cap, rfl, hi, hc⟩
theorem RepF.bptr_inv {b off : Nat} {v : Value} (h : RepF c g nL nT w (.bptr b off) v) : ∃ k, g.bx[b]? = some k ∧ v = .pointer (some ⟨k, off, none⟩) := by
  cases h with | clean _ _ h => cases h with | bptr _ _ k hk => exact ⟨k, hk, rfl⟩
theorem RepF.fptr_inv {ds : List D} {v : Value} (h : RepF c g nL nT w (.fptr ds) v) : Rep g.bx g.s w (.fptr ds) v := by
  cases h with | clean _ _ h => exact h
theorem RepF.iface_inv {t : TypeId} {d : D} {v : Value} (h : RepF c g nL nT w (.iface t d) v) : ∃ u, v = .iface t u ∧ Rep g.bx g.s w d u := by
  cases h with | clean _ _ h => cases h with | iface _ _ u hu => exact ⟨u, rfl, hu⟩
theorem RepF.fn_inv {f : FuncId} {ds : List D} {v : Value} (h : RepF c g nL nT w (.fn f ds) v) : ∃ vs : Array Value, v = .func (.func f) #[] vs ∧ ds.length = vs.size ∧ ∀ (i : Nat) (d : D), ds[i]? = some d → Rep g.bx g.s w d (vs.getD i Go.undef) := by
  cases h with | clean _ _ h => cases h with | fn _ _ vs hl h => exact ⟨vs, rfl, hl, h⟩

theorem Rep.to_none {bx : List Nat} {s : Nat → Nat} {sz : Nat} {xs : List D} {p : Perm} {v : Value} (h : Rep bx s w (.vec sz xs p) v) : Rep bx s w (.vec sz xs .none) v := by
  cases h with
  | nilv _ _ hp => exact .nilv sz .none (.inl rfl)
  | vec _ _ _ a cap vs hp hcap hsz hc hr hs => exact .vec sz xs .none a cap vs (.inl rfl) hcap hsz hc hr hs

/-- A slice is nil, and has no elements; or it is not. -/
theorem Rep.vec_shape {bx : List Nat} {s : Nat → Nat} {sz : Nat} {xs : List D} {p : Perm} {v : Value} (h : Rep bx s w (.vec sz xs p) v) :
    (v = .slice none 0 0 ∧ xs = []) ∨ ∃ a cap, v = .slice (some a) xs.length cap ∧ xs.length ≤ cap ∧ (p = .exact → cap = xs.length) := by
  cases h with
  | nilv _ _ hp => exact .inl ⟨rfl, rfl⟩
  | vec _ _ _ a cap vs hp hcap hsz hc hr hs => exact .inr ⟨a, cap, rfl, hcap, fun e => by subst e; rcases hp with h | ⟨_, h⟩ | h; cases h; exact h; cases h⟩

theorem RepF.vec_inv {sz : Nat} {xs : List D} {p : Perm} {v : Value} (h : RepF c g nL nT w (.vec sz xs p) v) : Rep g.bx g.s w (.vec sz xs .none) v := by
  cases h with
  | clean _ _ h => exact h.to_none
  | own i _ _ cap hi h ho he hb => exact h
  | tight i _ _ hi h => exact h.to_none
  | fresh _ _ _ h => exact h

theorem RepF.own_inv {sz i : Nat} {xs : List D} {v : Value} (h : RepF c g nL nT w (.vec sz xs (.own i)) v) :
    i < nT ∧ Rep g.bx g.s w (.vec sz xs .none) v ∧ (xs = [] ∧ Rep g.bx g.s w (.vec sz xs .exact) v ∨ g.ow i = true ∧ ∃ cap, v = .slice (some ⟨g.tk i, 0, none⟩) xs.length cap ∧ xs.length * sz = g.en i ∧ cap * sz = g.bs i) := by
  cases h with
  | clean _ _ h =>
    cases h with
    | nilv _ _ hp => rcases hp with hp | hp <;> cases hp
    | vec _ _ _ a cap vs hp => rcases hp with hp | ⟨hp, _⟩ | hp <;> cases hp
  | own i _ _ cap hi h ho he hb => exact ⟨hi, h, .inr ⟨ho, cap, rfl, he, hb⟩⟩
  | tight i _ _ hi h => exact ⟨hi, h.to_none, .inl ⟨rfl, h⟩⟩

theorem RepF.real_inv {sz : Nat} {xs : List D} {v : Value} (h : RepF c g nL nT w (.vec sz xs .real) v) : ∃ a cap, v = .slice (some a) xs.length cap := by
  cases h with
  | clean _ _ h =>
    cases h with
    | nilv _ _ hp => rcases hp with hp | hp <;> cases hp
    | vec _ _ _ a cap vs hp => exact ⟨a, cap, rfl⟩

theorem RepF.exact_inv {sz : Nat} {xs : List D} {v : Value} (h : RepF c g nL nT w (.vec sz xs .exact) v) : Rep g.bx g.s w (.vec sz xs .exact) v := by
  cases h with
  | clean _ _ h => exact h

theorem RepF.agg_inv {ds : List D} {v : Value} (h : RepF c g nL nT w (.agg ds) v) : ∃ vs, v = .agg vs ∧ ds.length = vs.size ∧ ∀ i d, ds[i]? = some d → RepF c g nL nT w d (vs.getD i Go.undef) := by
  cases h with
  | clean _ _ h => cases h with | agg _ vs hl h => exact ⟨vs, rfl, hl, fun i d hi => .clean _ _ (h i d hi)⟩
  | agg _ vs hl h => exact ⟨vs, rfl, hl, h⟩

theorem RepF.tuple_inv {ds : List D} {v : Value} (h : RepF c g nL nT w (.tuple ds) v) : ∃ vs, v = .tuple vs ∧ ds.length = vs.size ∧ ∀ i d, ds[i]? = some d → RepF c g nL nT w d (vs.getD i Go.undef) := by
  cases h with
  | clean _ _ h => cases h
  | tuple _ vs hl h => exact ⟨vs, rfl, hl, h⟩

/-- A value of one cell is one cell. -/
theorem RepF.leaf_cells {d : D} {v : Value} (hd : d.leaf = true) (h : RepF c g nL nT w d v) : v.cells = #[v] ∧ v.oneCell' = true := by
  cases h with
  | undef v => simp [D.leaf] at hd
  | clean _ _ h => cases h <;> first | (simp [D.leaf] at hd; done) | exact ⟨rfl, rfl⟩
  | lptr => exact ⟨rfl, rfl⟩
  | lsl => exact ⟨rfl, rfl⟩
  | own => exact ⟨rfl, rfl⟩
  | tight _ _ _ _ h => cases h <;> exact ⟨rfl, rfl⟩
  | fresh _ _ _ h => cases h <;> exact ⟨rfl, rfl⟩
  | agg => simp [D.leaf] at hd
  | tuple => simp [D.leaf] at hd

/-- A value that is told, and no tuple. -/
def D.solid : D → Prop
  | .undef | .tuple _ => False
  | _ => True

/-- The cells of a value that is told. -/
theorem RepF.cells_of {d : D} {v : Value} (hd : d.solid) (h : RepF c g nL nT w d v) :
    d.cells.length = v.cells.size ∧ ∀ i e, d.cells[i]? = some e → RepF c g nL nT w e (v.cells.getD i Go.undef) := by
  cases d with
  | agg ds => obtain ⟨vs, rfl, hl, hr⟩ := h.agg_inv; exact ⟨hl, hr⟩
  | undef => exact hd.elim
  | tuple ds => exact hd.elim
  | _ =>
    obtain ⟨h1, _⟩ := RepF.leaf_cells (d := _) rfl h
    rw [h1]
    refine ⟨rfl, fun i e hi => ?_⟩
    cases i with
    | zero => simp [D.cells] at hi; subst hi; exact h
    | succ i => simp [D.cells] at hi

theorem rep_ofV (v : Value) : RepF c g nL nT w (ofV v) v := by
  unfold ofV
  split
  · exact .clean _ _ (.bool _)
  · exact .clean _ _ (.int _ _)
  · exact .clean _ _ (.str _)
  · exact .clean _ _ .nilp
  · exact .clean _ _ .nilsl
  · exact .clean _ _ .nilfn
  · exact .clean _ _ .nili
  · exact .undef _

/-- The slots. -/
def EnvR (c : Cx) (g : Gh) (nL : Nat → Prop) (nT : Nat) (w : World) (ρ : Env) (a : Act) : Prop := ∀ t, RepF c g nL nT w (get ρ t) (a.tmps.getD t Go.undef)

theorem EnvR.eval {ρ : Env} {a : Act} (h : EnvR c g nL nT w ρ a) (x : Operand) : RepF c g nL nT w (eval ρ x) (a.eval x) := by
  cases x with
  | tmp t => exact h t
  | const v => exact rep_ofV v
  | func f => exact .clean _ _ (.fn f [] #[] rfl (fun i d hi => by simp at hi))
  | global _ => exact .undef _

theorem rep_nz {T : Tab} {t : TypeId} {d : D} {v : Value} (h : RepF c g nL nT w d v) : RepF c g nL nT w (nz T t d) v := by
  unfold nz
  split
  · have := h.nilsl_inv
    subst this
    repeat' split
    all_goals first | exact .undef _ | exact .clean _ _ (.nilv _ _ (.inr rfl))
  · exact h

theorem EnvR.evalT {T : Tab} {t : TypeId} {ρ : Env} {a : Act} (h : EnvR c g nL nT w ρ a) (x : Operand) : RepF c g nL nT w (evalT T t ρ x) (a.eval x) := by
  unfold V.evalT
  split
  · exact rep_nz (rep_ofV _)
  · exact h.eval x

theorem EnvR.mono {g' : Gh} {nL' : Nat → Prop} {nT' : Nat} {w' : World} {ρ : Env} {a : Act} (hg : Gle c g nL nT w g' nL' nT' w') (h : EnvR c g nL nT w ρ a) : EnvR c g' nL' nT' w' ρ a := fun t => (h t).mono hg

/-- What an operation must do. -/
def OpOk (c : Cx) (g : Gh) (st : St) (w : World) (a : Act) (o : Oper) (d : D) (st' : St) : Prop :=
  ∀ (K : Act → World → Prop) (Q : Exit → Act → World → Prop),
    (∀ v w' g', FS c g' st'.L st'.τ st'.B w' → Gle c g (dom st.L) st.τ.length w g' (dom st'.L) st'.τ.length w' → RepF c g' (dom st'.L) st'.τ.length w' d v → K (a.put o.dst v) w') →
    o.wp c.P a w K Q

theorem OpOk.value {st st' : St} {a : Act} {o : Oper} {d : D} {v : Value} {w' : World} {g' : Gh} (hr : (execOp a.eval o).run c.P w = .ok (.value v) w') (hf : FS c g' st'.L st'.τ st'.B w')
    (hg : Gle c g (dom st.L) st.τ.length w g' (dom st'.L) st'.τ.length w') (hd : RepF c g' (dom st'.L) st'.τ.length w' d v) : OpOk c g st w a o d st' := by
  intro K Q h
  unfold Oper.wp
  rw [hr]
  exact h v w' g' hf hg hd

theorem OpOk.skip {st st' : St} {a : Act} {o : Oper} {w' : World} {g' : Gh} (hr : (execOp a.eval o).run c.P w = .ok .skip w') (hf : FS c g' st'.L st'.τ st'.B w')
    (hg : Gle c g (dom st.L) st.τ.length w g' (dom st'.L) st'.τ.length w') : OpOk c g st w a o (.tuple []) st' := by
  intro K Q h
  unfold Oper.wp
  rw [hr]
  exact h Go.undef w' g' hf hg (.tuple [] #[] rfl (fun i d hi => by simp at hi))

/-- It touches nothing. -/
theorem OpOk.pure {st : St} {a : Act} {o : Oper} {d : D} {v : Value} (hr : (execOp a.eval o).run c.P w = .ok (.value v) w) (hf : FS c g st.L st.τ st.B w)
    (hd : RepF c g (dom st.L) st.τ.length w d v) : OpOk c g st w a o d st :=
  .value hr hf (Gle.refl _ _ _ _ _) hd

/-! ### Operations on numbers, texts, bools -/
theorem run_value (s : Sem Value) (P : Program) (w w' : World) (v : Value) (h : s.run P w = .ok v w') : (do pure (Next.value (← s)) : Sem Next).run P w = .ok (.value v) w' := by
  simp [h]

theorem bits_back (op : BinOp) (k : IntKind) (a b : Int) (w : World) (P : Program) (h : op = .and ∨ op = .or ∨ op = .xor ∨ op = .andNot) : (Op.intBits op k a b).run P w = .ok (.int k (bitsV op k a b)) w := by
  rcases h with rfl | rfl | rfl | rfl <;> rfl

end Go.Proofs.YtploddijjofphaaDoor.V
