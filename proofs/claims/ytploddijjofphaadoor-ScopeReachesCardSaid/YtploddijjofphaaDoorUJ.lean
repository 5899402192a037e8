/-
The operations on memory of the frame's own: new variables, loads, stores.
-/
import Derived.Test.YtploddijjofphaaDoorUI
namespace Go.Proofs.YtploddijjofphaaDoor.V
set_option linter.unusedSimpArgs false
set_option linter.unusedVariables false
open Go Go.RowKit

variable {c : Cx} {g : Gh} {nL : Nat → Prop} {nT : Nat} {w : World}

theorem cells_leaf {d : D} (h : d.cells.all D.leaf = true) : d.solid := by
  cases d <;> simp_all [D.cells, D.leaf, D.solid]

theorem getD_some {vs : Array Value} {i : Nat} (h : i < vs.size) : vs[i]? = some (vs.getD i Go.undef) := by
  simp [Array.getD, h]

theorem RepF.cells_at {d : D} {v : Value} (hd : d.solid) (h : RepF c g nL nT w d v) {j : Nat} {e : D} (hj : d.cells[j]? = some e) :
    ∃ u, v.cells[j]? = some u ∧ RepF c g nL nT w e u := by
  obtain ⟨hl, hr⟩ := h.cells_of hd
  have := lt_of_get hj
  exact ⟨_, getD_some (by omega), hr j e hj⟩

theorem Rep.cells_at {bx : List Nat} {s : Nat → Nat} {d : D} {v : Value} (h : Rep bx s w d v) {j : Nat} {e : D} (hj : d.cells[j]? = some e) : ∃ u, v.cells[j]? = some u ∧ Rep bx s w e u := by
  cases h with
  | agg ds vs hl h =>
    have := lt_of_get hj
    exact ⟨_, getD_some (by simp [D.cells] at this; simp [Value.cells]; omega), h j e hj⟩
  | _ =>
    simp only [D.cells] at hj
    cases j with
    | zero => simp at hj; subst hj; exact ⟨_, rfl, by constructor <;> assumption⟩
    | succ j => simp at hj

theorem Rep.cells_len {bx : List Nat} {s : Nat → Nat} {d : D} {v : Value} (h : Rep bx s w d v) : d.cells.length = v.cells.size := by
  cases h <;> first | rfl | (simp [D.cells, Value.cells]; assumption)

theorem op_alloc {T : Tab} (hT : TabOk c.P T) {st : St} {a : Act} {o : Oper} {e : TypeId} {ti : TI} (ho : o.op = .alloc e) (hf : FS c g st.L st.τ st.B w) (ht : T e = some ti) :
    OpOk c g st w a o (.lptr st.L.length 0) { st with L := st.L ++ [some ti.zero.cells] } := by
  obtain ⟨z, hz, hr⟩ := run_zero' hT ht
  obtain ⟨h1, h2⟩ := hf.alloc_box z.cells e (0, 0) ti.zero.cells (nofr_zero _) (fun j d hj => by
    obtain ⟨u, hu, hru⟩ := (hr g.bx g.s w).cells_at hj
    exact ⟨u, hu, .clean _ _ hru⟩)
  refine .value (v := .pointer (some ⟨w.heap.size, 0, none⟩)) ?_ h1 h2 ?_
  · simp [execOp, ho, Instr.alloc, hz, newVar, newRow, newObj, Sem.run]
  · have : (g.newL st.L.length w.heap.size).loc st.L.length = w.heap.size := by simp [Gh.newL]
    have h3 := RepF.lptr (c := c) (g := g.newL st.L.length w.heap.size) (nL := dom (st.L ++ [some ti.zero.cells])) (nT := st.τ.length) (w := w.alloc (.cells z.cells e)) st.L.length 0 (dom_new _ _)
    rw [this] at h3; exact h3

theorem op_alloc_at {T : Tab} (hT : TabOk c.P T) {st : St} {a : Act} {o : Oper} {e : TypeId} {ti : TI} {k : Nat} (hk : ¬ dom st.L k) (ho : o.op = .alloc e) (hf : FS c g st.L st.τ st.B w) (ht : T e = some ti) :
    OpOk c g st w a o (.lptr k 0) { st with L := ins st.L k ti.zero.cells } := by
  obtain ⟨z, hz, hr⟩ := run_zero' hT ht
  obtain ⟨h1, h2⟩ := hf.alloc_at k hk z.cells e (0, 0) ti.zero.cells (nofr_zero _) (fun j d hj => by
    obtain ⟨u, hu, hru⟩ := (hr g.bx g.s w).cells_at hj
    exact ⟨u, hu, .clean _ _ hru⟩)
  refine .value (v := .pointer (some ⟨w.heap.size, 0, none⟩)) ?_ h1 h2 ?_
  · simp [execOp, ho, Instr.alloc, hz, newVar, newRow, newObj, Sem.run]
  · have : (g.newL k w.heap.size).loc k = w.heap.size := by simp [Gh.newL]
    have h3 := RepF.lptr (c := c) (g := g.newL k w.heap.size) (nL := dom (ins st.L k ti.zero.cells)) (nT := st.τ.length) (w := w.alloc (.cells z.cells e)) k 0 (dom_ins.2 (.inl rfl))
    rw [this] at h3; exact h3

theorem global_clean {d : D} (hd : d.global = true) {v : Value} (h : RepF c g nL nT w d v) : Rep g.bx g.s w d v := by
  cases h with
  | clean _ _ h => exact h
  | _ => simp [D.global] at hd

theorem demote_whole {d e : D} (h : d.demote = some e) : e.whole = true ∧ e.cells.length = d.cells.length := by
  cases d <;> simp only [D.demote] at h
  case vec sz xs p => injection h with h; subst h; exact ⟨rfl, rfl⟩
  all_goals
    first
    | (cases hg : D.global _ with
       | false => rw [hg] at h; simp at h
       | true => rw [hg] at h; simp at h; subst h; first | exact ⟨rfl, rfl⟩ | (simp [D.global] at hg))

theorem demote_clean {d e : D} (h : d.demote = some e) {v : Value} (hr : RepF c g nL nT w d v) : Rep g.bx g.s w e v := by
  cases d <;> simp only [D.demote] at h
  case vec sz xs p => injection h with h; subst h; exact hr.vec_inv
  all_goals
    cases hg : D.global _ with
    | false => rw [hg] at h; simp at h
    | true =>
      rw [hg] at h; simp at h; subst h
      exact global_clean hg hr

theorem demoteL_spec : ∀ {ds es : List D}, demoteL ds = some es → ds.length = es.length ∧ ∀ (i : Nat) (e : D), es[i]? = some e → ∃ d, ds[i]? = some d ∧ d.demote = some e
  | [], es, h => by simp [demoteL] at h; subst h; exact ⟨rfl, fun i e hi => by simp at hi⟩
  | d :: ds, es, h => by
    simp only [demoteL] at h
    split at h
    · rename_i y hy
      split at h
      · rename_i ys hys
        injection h with h; subst h
        obtain ⟨h1, h2⟩ := demoteL_spec hys
        refine ⟨by simp [h1], fun i e hi => ?_⟩
        cases i with
        | zero => simp at hi; subst hi; exact ⟨d, rfl, hy⟩
        | succ i => simp at hi; obtain ⟨d', h3, h4⟩ := h2 i e hi; exact ⟨d', by simpa using h3, h4⟩
      · cases h
    · cases h

/-- A variable that all share. -/
theorem op_alloc_shared {T : Tab} (hT : TabOk c.P T) {st : St} {a : Act} {o : Oper} {e : TypeId} {ti : TI} (ho : o.op = .alloc e) (hf : FS c g st.L st.τ st.B w) (ht : T e = some ti) :
    OpOk c g st w a o (.bptr st.B.length 0) { st with B := st.B ++ [ti.zero.cells] } := by
  obtain ⟨z, hz, hr⟩ := run_zero' hT ht
  obtain ⟨h1, h2⟩ := hf.alloc_shared z.cells e (0, 0) ti.zero.cells (nofr_zero _) (fun j d hj => by
    obtain ⟨u, hu, hru⟩ := (hr g.bx g.s w).cells_at hj
    exact ⟨u, hu, hru⟩)
  refine .value (v := .pointer (some ⟨w.heap.size, 0, none⟩)) ?_ h1 h2 ?_
  · simp [execOp, ho, Instr.alloc, hz, newVar, newRow, newObj, Sem.run]
  · exact .clean _ _ (.bptr _ _ _ (by rw [hf.nB]; simp [Gh.newB]))

/-- What is laid and never changed. -/
theorem op_box_frozen {T : Tab} {st : St} {a : Act} {o : Oper} {e : TypeId} {x : Operand} {ds : List D} (ho : o.op = .box e x) (hf : FS c g st.L st.τ st.B w) (he : EnvR c g (dom st.L) st.τ.length w st.ρ a)
    (hl : (evalT T e st.ρ x).cells.all D.leaf = true) (hd : demoteL (evalT T e st.ρ x).cells = some ds) : OpOk c g st w a o (.fptr ds) st := by
  have hx := he.evalT (T := T) (t := e) x
  obtain ⟨hlen, hdm⟩ := demoteL_spec hd
  have hsz : (evalT T e st.ρ x).cells.length = (a.eval x).cells.size := (hx.cells_of (cells_leaf hl)).1
  obtain ⟨h1, h2⟩ := hf.alloc_stable (a.eval x).cells e (a.eval x).cells.size
  have hrep : ∀ (i : Nat) (d : D), ds[i]? = some d → ∃ v : Value, (a.eval x).cells[i]? = some v ∧ Rep g.bx g.s w d v := fun i d hi => by
    obtain ⟨d0, hd0, hdd⟩ := hdm i d hi
    obtain ⟨v, hv, hr⟩ := hx.cells_at (cells_leaf hl) hd0
    exact ⟨v, hv, demote_clean hdd hr⟩
  refine .value (v := .pointer (some ⟨w.heap.size, 0, none⟩)) ?_ h1 h2 (.clean _ _ (.fptr ds _ (fun i => (a.eval x).cells.getD i Go.undef) (fun i d hi => ?_) (fun i d hi => ?_) (fun _ => ?_)))
  · simp [execOp, ho, Instr.box, newVar, newRow, newObj, Sem.run]
  · obtain ⟨v, hv, _⟩ := hrep i d hi
    rw [add_plain]
    have hnew := heap_alloc_new w (.cells (a.eval x).cells e)
    have e1 : (a.eval x).cells.getD i Go.undef = v := by simp [Array.getD_eq_getD_getElem?, hv]
    rw [e1]
    simp only [World.cell?, hnew, Nat.zero_add]
    simpa using hv
  · obtain ⟨v, hv, hr⟩ := hrep i d hi
    have e1 : (a.eval x).cells.getD i Go.undef = v := by simp [Array.getD_eq_getD_getElem?, hv]
    rw [e1]; exact hr.mono h2.ev
  · show 0 + ds.length ≤ (g.withS w.heap.size (a.eval x).cells.size).s w.heap.size
    simp [Gh.withS]; omega

/-- What is laid, and all share. -/
theorem op_box_shared {T : Tab} {st : St} {a : Act} {o : Oper} {e : TypeId} {x : Operand} {ds : List D} (ho : o.op = .box e x) (hf : FS c g st.L st.τ st.B w) (he : EnvR c g (dom st.L) st.τ.length w st.ρ a)
    (hl : (evalT T e st.ρ x).cells.all D.leaf = true) (hd : demoteL (evalT T e st.ρ x).cells = some ds) : OpOk c g st w a o (.bptr st.B.length 0) { st with B := st.B ++ [ds] } := by
  have hx := he.evalT (T := T) (t := e) x
  obtain ⟨hlen, hdm⟩ := demoteL_spec hd
  obtain ⟨h1, h2⟩ := hf.alloc_shared (a.eval x).cells e (0, 0) ds (nofr_zero _) (fun j d hj => by
    obtain ⟨d0, hd0, hdd⟩ := hdm j d hj
    obtain ⟨v, hv, hr⟩ := hx.cells_at (cells_leaf hl) hd0
    exact ⟨v, hv, demote_clean hdd hr⟩)
  refine .value (v := .pointer (some ⟨w.heap.size, 0, none⟩)) ?_ h1 h2 ?_
  · simp [execOp, ho, Instr.box, newVar, newRow, newObj, Sem.run]
  · exact .clean _ _ (.bptr _ _ _ (by rw [hf.nB]; simp [Gh.newB]))

theorem op_box {T : Tab} {st : St} {a : Act} {o : Oper} {e : TypeId} {x : Operand} (ho : o.op = .box e x) (hf : FS c g st.L st.τ st.B w) (he : EnvR c g (dom st.L) st.τ.length w st.ρ a)
    (hl : (evalT T e st.ρ x).cells.all D.leaf = true) :
    OpOk c g st w a o (.lptr st.L.length 0) { st with L := st.L ++ [some (evalT T e st.ρ x).cells] } := by
  have hx := he.evalT (T := T) (t := e) x
  obtain ⟨h1, h2⟩ := hf.alloc_box (a.eval x).cells e (0, 0) (evalT T e st.ρ x).cells (nofr_zero _) (fun j d hj => hx.cells_at (cells_leaf hl) hj)
  refine .value (v := .pointer (some ⟨w.heap.size, 0, none⟩)) ?_ h1 h2 ?_
  · simp [execOp, ho, Instr.box, newVar, newRow, newObj, Sem.run]
  · have : (g.newL st.L.length w.heap.size).loc st.L.length = w.heap.size := by simp [Gh.newL]
    have h3 := RepF.lptr (c := c) (g := g.newL st.L.length w.heap.size) (nL := dom (st.L ++ [some (evalT T e st.ρ x).cells])) (nT := st.τ.length) (w := w.alloc (.cells (a.eval x).cells e)) st.L.length 0 (dom_new _ _)
    rw [this] at h3; exact h3

/-- Where a pointer leads. -/
theorem at_spec {st : St} {p : D} {v : Value} {ds : List D} {off : Nat} (hf : FS c g st.L st.τ st.B w) (h : st.at_ p = some (ds, off)) (hr : RepF c g (dom st.L) st.τ.length w p v) :
    ∃ a, v = .pointer (some a) ∧ ∀ j d, ds[off + j]? = some d → ∃ u, w.cell? (a.add j) = some u ∧ RepF c g (dom st.L) st.τ.length w d u := by
  cases p <;> simp only [St.at_] at h <;> try (cases h; done)
  case lptr i o =>
    split at h
    · rename_i es hL
      injection h with h; injection h with h1 h2; subst h1; subst h2
      obtain ⟨rfl, hi⟩ := hr.lptr_inv
      refine ⟨_, rfl, fun j d hj => ?_⟩
      obtain ⟨_, cs, t, fr, hh, _, hc⟩ := hf.boxL i _ hL
      obtain ⟨u, hu, hru⟩ := hc _ d hj
      exact ⟨u, by rw [add_plain]; simp [World.cell?, hh, hu], hru⟩
    · cases h
  case bptr i o =>
    split at h
    · rename_i es hB
      injection h with h; injection h with h1 h2; subst h1; subst h2
      obtain ⟨k, hk, rfl⟩ := hr.bptr_inv
      refine ⟨_, rfl, fun j d hj => ?_⟩
      obtain ⟨_, cs, t, fr, hh, _, hc⟩ := hf.boxB i _ k hB hk
      obtain ⟨u, hu, hru⟩ := hc _ d hj
      exact ⟨u, by rw [add_plain]; simp [World.cell?, hh, hu], .clean _ _ hru⟩
    · cases h
  case fptr es =>
    injection h with h; injection h with h1 h2; subst h1; subst h2
    have := hr.fptr_inv
    cases this with
    | fptr _ a vs hc hr2 hs => exact ⟨a, rfl, fun j d hj => by simp at hj; exact ⟨vs j, hc j d hj, .clean _ _ (hr2 j d hj)⟩⟩

theorem run_loadVar {P : Program} {T : Tab} (hT : TabOk P T) {t : TypeId} {ti : TI} (ht : T t = some ti) (a : Addr) (f : Nat → Value) (h : ∀ j, j < ti.sz → w.cell? (a.add j) = some (f j)) (hs : ti.agg = true ∨ ti.sz = 1) :
    (loadVar t a).run P w = .ok (if ti.agg then .agg ((List.range ti.sz).map f).toArray else f 0) w := by
  rcases Bool.eq_false_or_eq_true ti.agg with ha | ha
  · have := run_loadCells (P := P) w a ti.sz f h
    simp [loadVar, run_isAgg hT ht, ha, run_sizeOf' hT ht, this]
  · have h0 := h 0 (by have := hs.resolve_left (by simp [ha]); omega)
    have e0 : a.add 0 = a := rfl
    rw [e0] at h0
    simp [loadVar, run_isAgg hT ht, ha, run_load, h0]

theorem load_spec {T : Tab} (hT : TabOk c.P T) {st : St} {t : TypeId} {x d : D} {v : Value} (hf : FS c g st.L st.τ st.B w) (hx : RepF c g (dom st.L) st.τ.length w x v)
    (hd : loadV T st t x = some d) : ∃ ad u, v = .pointer (some ad) ∧ (loadVar t ad).run c.P w = .ok u w ∧ RepF c g (dom st.L) st.τ.length w d u := by
  unfold loadV at hd
  split at hd
  · rename_i ti ds off ht hat
    obtain ⟨ad, hv, hc⟩ := at_spec hf hat hx
    cases hs : (ti.agg || Nat.beq ti.sz 1) with
    | false => simp [hs] at hd
    | true =>
      simp only [hs, cond_true] at hd
      have hs' : ti.agg = true ∨ ti.sz = 1 := by
        simp only [Bool.or_eq_true] at hs; exact hs.imp id (fun h => Nat.eq_of_beq_eq_true h)
      unfold loadC at hd
      split at hd
      · rename_i hl
        let f : Nat → Value := fun j => ((w.cell? (ad.add j)).getD Go.undef)
        have hcell : ∀ j, j < ti.sz → w.cell? (ad.add j) = some (f j) := fun j hj => by
          obtain ⟨u, hu, _⟩ := hc j _ (List.getElem?_eq_getElem (by omega))
          simp [f, hu]
        have hrep : ∀ j d, ds[off + j]? = some d → RepF c g (dom st.L) st.τ.length w d (f j) := fun j d hj => by
          obtain ⟨u, hu, hr⟩ := hc j d hj
          simpa [f, hu] using hr
        have hrun := run_loadVar (w := w) hT ht ad f hcell hs'
        refine ⟨ad, if ti.agg then .agg ((List.range ti.sz).map f).toArray else f 0, hv, hrun, ?_⟩
        rcases Bool.eq_false_or_eq_true ti.agg with ha | ha
        · simp only [ha, cond_true, Option.some.injEq] at hd
          subst hd
          simp only [ha, if_true]
          refine .agg _ _ (by simp; omega) (fun i d hi => ?_)
          have hlt := lt_of_get hi
          simp at hlt
          rw [List.getElem?_take_of_lt (by omega), List.getElem?_drop] at hi
          have := hrep i d hi
          have hi' : i < ti.sz := by omega
          simpa [Array.getD, hi'] using this
        · simp only [ha, cond_false] at hd
          simp only [ha]
          exact hrep 0 d (by simpa using hd)
      · cases hd
  · cases hd

theorem op_load {T : Tab} (hT : TabOk c.P T) {st : St} {a : Act} {o : Oper} {t : TypeId} {x : Operand} {d : D} (ho : o.op = .load t x) (hf : FS c g st.L st.τ st.B w) (he : EnvR c g (dom st.L) st.τ.length w st.ρ a)
    (hd : loadV T st t (eval st.ρ x) = some d) : OpOk c g st w a o d st := by
  obtain ⟨ad, u, hv, hrun, hr⟩ := load_spec hT hf (he.eval x) hd
  refine .pure (v := u) ?_ hf hr
  simp only [execOp, ho, Instr.loadAt, hv, Instr.sureAddr]
  exact run_value _ _ _ _ _ (by simpa using hrun)

theorem setC_get (ds : List D) (off : Nat) (cs : List D) (h : off + cs.length ≤ ds.length) (j : Nat) : (setC ds off cs)[j]? = if off ≤ j ∧ j < off + cs.length then cs[j - off]? else ds[j]? := by
  unfold setC
  have h1 : (ds.take off).length = off := by simp; omega
  by_cases hj : j < off
  · rw [if_neg (by omega), List.append_assoc, List.getElem?_append_left (by omega), List.getElem?_take_of_lt hj]
  · by_cases hj2 : j < off + cs.length
    · rw [if_pos (by omega), List.getElem?_append_left (by simp; omega), List.getElem?_append_right (by omega), h1]
    · rw [if_neg (by omega), List.getElem?_append_right (by simp; omega), List.getElem?_drop]
      congr 1; simp; omega

theorem beq_of {a b : Nat} (h : Nat.beq a b = true) : a = b := Nat.eq_of_beq_eq_true h

theorem op_store {T : Tab} (hT : TabOk c.P T) {st st' : St} {a : Act} {o : Oper} {t : TypeId} {p x : Operand} (ho : o.op = .store t p x) (hf : FS c g st.L st.τ st.B w) (he : EnvR c g (dom st.L) st.τ.length w st.ρ a)
    (hd : storeV T st t (eval st.ρ p) (evalT T t st.ρ x) = some st') : OpOk c g st w a o (.tuple []) st' := by
  have hp := he.eval p
  have hx := he.evalT (T := T) (t := t) x
  generalize evalT T t st.ρ x = X at hx hd
  unfold storeV at hd
  split at hd
  · rename_i ti ht
    cases hs : (Nat.beq X.cells.length ti.sz && X.cells.all D.leaf) with
    | false => simp [hs] at hd
    | true =>
      simp only [hs, cond_true] at hd
      simp only [Bool.and_eq_true] at hs
      have hsz := beq_of hs.1
      have hleaf := hs.2
      have hxm := cells_leaf hleaf
      obtain ⟨hxl, hxr⟩ := hx.cells_of hxm
      have hone : ∀ v, v ∈ (a.eval x).cells.toList → v.oneCell' = true := fun v hv => by
        obtain ⟨j, hj⟩ := List.getElem?_of_mem hv
        have hlt := lt_of_get hj
        simp at hlt
        have hd := hxr j _ (List.getElem?_eq_getElem (by omega : j < X.cells.length))
        have hl2 := List.all_eq_true.1 hleaf _ (List.getElem_mem (by omega : j < X.cells.length))
        have hv2 : (a.eval x).cells.getD j Go.undef = v := by
          have := getD_some hlt
          simp at hj
          simp [Array.getD, hlt]
          rw [Array.getElem?_eq_getElem hlt] at hj
          exact Option.some.inj hj
        rw [hv2] at hd
        exact (RepF.leaf_cells hl2 hd).2
      have hrun : ∀ (k off : Nat) (cs : Array Value) (t' : TypeId) (fr : Nat × Nat), w.heap[k]? = some (.cells cs t' fr) → nofr fr cs.size → off + ti.sz ≤ cs.size → a.eval p = .pointer (some ⟨k, off, none⟩) →
          ∃ (w' : World) (cs' : Array Value), (execOp a.eval o).run c.P w = .ok .skip w' ∧ w'.heap[k]? = some (.cells cs' t' fr) ∧ cs'.size = cs.size ∧
            (∀ j : Nat, cs'[j]? = if off ≤ j ∧ j < off + ti.sz then (a.eval x).cells[j - off]? else cs[j]?) ∧
            (∀ q, q ≠ k → w'.heap[q]? = w.heap[q]?) ∧ w'.heap.size = w.heap.size ∧ w'.os = w.os ∧ w'.tape = w.tape ∧ w'.output = w.output := by
        intro k off cs t' fr hh hfr hfit hpv
        have hlen : (a.eval x).cells.toList.length = ti.sz := by simp; omega
        obtain ⟨w', cs', b1, b2, b3, b4, b5, b6, b7, b8, b9⟩ := run_storeCells_gen c.P k t' fr cs.size hfr (a.eval x).cells.toList off 0 cs w hh rfl (by omega) hone
        refine ⟨w', cs', ?_, b2, b3, fun j => ?_, b5, b6, b7, b8, b9⟩
        · have e1 : (a.eval x).cells.size = ti.sz := by simpa using hlen
          simp [execOp, ho, Instr.storeAt, hpv, Instr.sureAddr, storeVar, run_sizeOf' hT ht, e1, b1]
        · rw [b4 j, hlen]; simp
      split at hd
      · rename_i i off hpe
        split at hd
        · rename_i ds hL
          split at hd
          · rename_i hfit
            injection hd with hd; subst hd
            rw [hpe] at hp
            obtain ⟨hpv, hi⟩ := hp.lptr_inv
            obtain ⟨_, cs, t', fr, hh, hfr, hc⟩ := hf.boxL i ds hL
            have hcsz : ds.length ≤ cs.size := by
              rcases Nat.eq_zero_or_pos ds.length with h0 | h0
              · omega
              · obtain ⟨v, hv, _⟩ := hc (ds.length - 1) _ (List.getElem?_eq_getElem (by omega))
                have := (Array.getElem?_eq_some_iff.1 hv).1; omega
            obtain ⟨w', cs', b1, b2, b3, b4, b5, b6, b7, b8, b9⟩ := hrun (g.loc i) off cs t' fr hh hfr (by omega) hpv
            obtain ⟨h1, h2⟩ := hf.set_box hL w' b5 b6 b7 b8 b9 (setC ds off X.cells) ⟨cs', t', fr, b2, by rw [b3]; exact hfr, fun j d hj => by
              rw [setC_get ds off _ (by omega) j] at hj
              rw [b4 j]
              by_cases hin : off ≤ j ∧ j < off + X.cells.length
              · rw [if_pos hin] at hj
                rw [if_pos (by omega)]
                exact hx.cells_at hxm hj
              · rw [if_neg hin] at hj
                rw [if_neg (by omega)]
                exact hc j d hj⟩
            exact .skip b1 h1 h2
          · cases hd
        · cases hd
      · rename_i i off hpe
        split at hd
        · rename_i ds hB
          split at hd
          · rename_i hfit
            cases hgl : X.cells.all D.global with
            | false => simp [hgl] at hd
            | true =>
              simp only [hgl, cond_true, Option.some.injEq] at hd
              subst hd
              rw [hpe] at hp
              obtain ⟨k0, hk0, hpv⟩ := hp.bptr_inv
              obtain ⟨_, cs, t', fr, hh, hfr, hc⟩ := hf.boxB i ds k0 hB hk0
              have hcsz : ds.length ≤ cs.size := by
                rcases Nat.eq_zero_or_pos ds.length with h0 | h0
                · omega
                · obtain ⟨v, hv, _⟩ := hc (ds.length - 1) _ (List.getElem?_eq_getElem (by omega))
                  have := (Array.getElem?_eq_some_iff.1 hv).1; omega
              obtain ⟨w', cs', b1, b2, b3, b4, b5, b6, b7, b8, b9⟩ := hrun k0 off cs t' fr hh hfr (by omega) hpv
              obtain ⟨h1, h2⟩ := hf.set_glob hB hk0 w' b5 b6 b7 b8 b9 (setC ds off X.cells) ⟨cs', t', fr, b2, by rw [b3]; exact hfr, fun j d hj => by
                rw [setC_get ds off _ (by omega) j] at hj
                rw [b4 j]
                by_cases hin : off ≤ j ∧ j < off + X.cells.length
                · rw [if_pos hin] at hj
                  rw [if_pos (by omega)]
                  obtain ⟨u, hu, hru⟩ := hx.cells_at hxm hj
                  have hgd : d.global = true := List.all_eq_true.1 hgl _ (List.mem_of_getElem? hj)
                  refine ⟨u, hu, ?_⟩
                  cases hru with
                  | clean _ _ h => exact h
                  | _ => simp [D.global] at hgd
                · rw [if_neg hin] at hj
                  rw [if_neg (by omega)]
                  exact hc j d hj⟩
              exact .skip b1 h1 h2
          · cases hd
        · cases hd
      · cases hd
  · cases hd

end Go.Proofs.YtploddijjofphaaDoor.V
