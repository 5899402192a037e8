/-
What is built: structs, arrays, rows.
-/
import Derived.Test.YtploddijjofphaaDoorUL
import Derived.Laws.Tables
import Derived.Great.BuildSlice
namespace Go.Proofs.YtploddijjofphaaDoor.V
set_option linter.unusedSimpArgs false
set_option linter.unusedVariables false
open Go Go.RowKit

variable {c : Cx} {g : Gh} {nL : Nat → Prop} {nT : Nat} {w : World}

theorem places_some {P : Program} : ∀ (fs : List Field), (∀ f, f ∈ fs → ∃ i, P.info? f.type = some i) →
    ∃ places, fs.mapM (fun f => (P.info? f.type).map fun i => (f.offset, i.size)) = some places ∧ ∀ (k : Nat) (f : Field) (i : TypeInfo), fs[k]? = some f → P.info? f.type = some i → places[k]? = some (f.offset, i.size)
  | [], _ => ⟨[], by simp, fun k f i hk => by simp at hk⟩
  | f :: fs, h => by
    obtain ⟨i, hi⟩ := h f (by simp)
    obtain ⟨places, h1, h2⟩ := places_some fs (fun x hx => h x (by simp [hx]))
    refine ⟨(f.offset, i.size) :: places, ?_, fun k f' i' hk hi' => ?_⟩
    · simp [List.mapM_cons, hi, h1]
    · cases k with
      | zero => simp at hk; subst hk; rw [hi] at hi'; injection hi' with e; subst e; rfl
      | succ k => simp at hk ⊢; exact h2 k f' i' hk hi'

theorem partsV_spec {T : Tab} {ty : Nat → TypeId} {st : St} {a : Act} (he : EnvR c g nL nT w st.ρ a) : ∀ (l : List (Nat × Operand)),
    (partsV T ty st.ρ l).length = (l.map fun (i, x) => (i, a.eval x)).length ∧
      ∀ (i k : Nat) (d : D), (partsV T ty st.ρ l)[i]? = some (k, d) → ∃ v : Value, (l.map fun (i, x) => (i, a.eval x))[i]? = some (k, v) ∧ RepF c g nL nT w d v
  | [] => ⟨rfl, fun i k d h => by simp [partsV] at h⟩
  | (j, x) :: l => by
    obtain ⟨h1, h2⟩ := partsV_spec (T := T) (ty := ty) he l
    refine ⟨by simp [partsV] at h1 ⊢; exact h1, fun i k d h => ?_⟩
    cases i with
    | zero => simp [partsV] at h; obtain ⟨rfl, rfl⟩ := h; exact ⟨_, by simp, he.evalT x⟩
    | succ i => simp [partsV] at h; obtain ⟨v, hv, hr⟩ := h2 i k d h; exact ⟨v, by simpa using hv, hr⟩

theorem op_build {T : Tab} (hT : TabOk c.P T) {st : St} {a : Act} {o : Oper} {t : TypeId} {parts : Array (Nat × Operand)} {d : D} (ho : o.op = .build t parts) (hf : FS c g st.L st.τ st.B w)
    (he : EnvR c g (dom st.L) st.τ.length w st.ρ a) {ty : Nat → TypeId} (hd : buildV T t (partsV T ty st.ρ parts.toList) = some d) : OpOk c g st w a o d st := by
  obtain ⟨hlen, hparts⟩ := partsV_spec (T := T) (ty := ty) he parts.toList
  have key : ∀ (place place' : Nat → Option (Nat × Nat)) (ti : TI) (it : TypeInfo) (z : Value) (ds : List D), (∀ i p, place i = some p → place' i = some p) → Rep g.bx g.s w ti.zero z →
      fillV place ti.zero.cells (partsV T ty st.ρ parts.toList) = some ds →
      ∃ cs, Instr.fill place' z.cells (parts.map fun (i, x) => (i, a.eval x)).toList = some cs ∧ RepF c g (dom st.L) st.τ.length w (.agg ds) (.agg cs) := by
    intro place place' ti it z ds hpl hz hfill
    obtain ⟨cs, h1, h2, h3⟩ := fill_spec (RepF c g (dom st.L) st.τ.length w) place place' hpl _ (parts.toList.map fun (i, x) => (i, a.eval x)) _ z.cells ds hlen
      (fun i k d hi => by obtain ⟨v, hv, hr⟩ := hparts i k d hi; exact ⟨v, hv, fun hs => hr.cells_of hs⟩) hz.cells_len
      (fun j d hj => by obtain ⟨u, hu, hr⟩ := hz.cells_at hj; simp [Array.getD_eq_getD_getElem?, hu]; exact .clean _ _ hr) hfill
    exact ⟨cs, by rw [Array.toList_map]; exact h1, .agg _ _ h2 h3⟩
  unfold buildV at hd
  split at hd
  · rename_i ti ht
    obtain ⟨it, z, hit, hsz, hby, hz, hrz⟩ := hT.info t ti ht
    split at hd
    · rename_i fs htd
      obtain ⟨fields, hund, hfs, _⟩ := desc_of hT ht htd
      have hall : ∀ f, f ∈ fields.toList → ∃ i, c.P.info? f.type = some i := fun f hf =>
        hT.flds t ti fs ht htd (f.offset, f.type) (by rw [← hfs]; exact List.mem_map_of_mem hf)
      obtain ⟨places, hp1, hp2⟩ := places_some fields.toList hall
      split at hd
      · rename_i ds hfill
        injection hd with hd; subst hd
        obtain ⟨cs, h1, h2⟩ := key _ (places.toArray[·]?) ti it z ds (fun i p hp => by
          split at hp
          · rename_i off u hfo
            split at hp
            · rename_i ui hu
              injection hp with hp; subst hp
              rw [← hfs] at hfo
              simp only [List.getElem?_map, Option.map_eq_some_iff] at hfo
              obtain ⟨f, hf1, hf2⟩ := hfo
              injection hf2 with e1 e2; subst e1; subst e2
              obtain ⟨iu, zu, hiu, hus, _⟩ := hT.info _ _ hu
              have := hp2 i f iu hf1 hiu
              simp [this, hus]
            · cases hp
          · cases hp) (hrz _ _ _) hfill
        have hb : c.P.built t (parts.map fun (i, x) => (i, a.eval x)).toList = some cs := by
          simp only [Program.built, hit, hund, hz, hp1]; exact h1
        refine .pure (v := .agg cs) ?_ hf h2
        simp [execOp, ho, run_build w t _ cs hb]
      · cases hd
    · rename_i n e htd
      have hund : c.P.underlying t = some (.array n e) := desc_of hT ht htd
      split at hd
      · rename_i ei hei
        obtain ⟨ie, ze, hie, hes, _⟩ := hT.info e ei hei
        split at hd
        · rename_i ds hfill
          injection hd with hd; subst hd
          obtain ⟨cs, h1, h2⟩ := key _ (fun i => some (i * ie.size, ie.size)) ti it z ds (fun i p hp => by rw [hes]; exact hp) (hrz _ _ _) hfill
          have hb : c.P.built t (parts.map fun (i, x) => (i, a.eval x)).toList = some cs := by
            simp only [Program.built, hit, hund, hz, hie]; exact h1
          refine .pure (v := .agg cs) ?_ hf h2
          simp [execOp, ho, run_build w t _ cs hb]
        · cases hd
      · cases hd
    · cases hd
  · cases hd

/-! ### What is told to others -/
theorem demoteC_whole {d e : D} (h : d.demoteC = some e) : e.whole = true ∧ e.cells.length = d.cells.length := by
  cases d <;> simp only [D.demoteC] at h
  case agg ds =>
    split at h
    · rename_i es hes
      injection h with h; subst h
      exact ⟨rfl, (demoteL_spec hes).1.symm⟩
    · cases h
  all_goals exact demote_whole h

theorem global_leaf {d : D} (h : d.global = true) : d.leaf = true := by cases d <;> simp_all [D.global, D.leaf]

theorem demote_leaf {d e : D} (h : d.demote = some e) : e.leaf = true := by
  cases d <;> simp only [D.demote] at h
  case vec sz xs p => injection h with h; subst h; rfl
  all_goals
    cases hg : D.global _ with
    | false => rw [hg] at h; simp at h
    | true => rw [hg] at h; simp at h; subst h; exact global_leaf hg

theorem leaf_all {d : D} (h : d.leaf = true) : d.cells.all D.leaf = true := by cases d <;> simp_all [D.cells, D.leaf]

theorem demoteC_leaf {d e : D} (h : d.demoteC = some e) : e.cells.all D.leaf = true := by
  cases d <;> simp only [D.demoteC] at h
  case agg ds =>
    split at h
    · rename_i es hes
      injection h with h; subst h
      refine List.all_eq_true.2 (fun e he => ?_)
      obtain ⟨i, hi⟩ := List.getElem?_of_mem he
      obtain ⟨d, _, h4⟩ := (demoteL_spec hes).2 i e hi
      exact demote_leaf h4
    · cases h
  all_goals exact leaf_all (demote_leaf h)

theorem demoteC_clean {d e : D} (h : d.demoteC = some e) {v : Value} (hr : RepF c g nL nT w d v) : Rep g.bx g.s w e v := by
  cases d <;> simp only [D.demoteC] at h
  case agg ds =>
    split at h
    · rename_i es hes
      injection h with h; subst h
      obtain ⟨h1, h2⟩ := demoteL_spec hes
      obtain ⟨vs, rfl, hl, hr⟩ := hr.agg_inv
      refine .agg _ _ (h1.symm.trans hl) (fun i e hi => ?_)
      obtain ⟨d, h3, h4⟩ := h2 i e hi
      exact demote_clean h4 (hr i d h3)
    · cases h
  all_goals exact demote_clean h hr

theorem okParts_spec {sz : Nat} : ∀ {l : List (Nat × D)} {ps : List (Nat × D)}, okParts sz l = some ps → l.length = ps.length ∧
    ∀ (i k : Nat) (e : D), ps[i]? = some (k, e) → e.cells.length = sz ∧ ∃ d, l[i]? = some (k, d) ∧ d.demoteC = some e
  | [], ps, h => by simp [okParts] at h; subst h; exact ⟨rfl, fun i k e hi => by simp at hi⟩
  | (j, d) :: l, ps, h => by
    simp only [okParts] at h
    split at h
    · rename_i y hy
      cases hb : Nat.beq y.cells.length sz with
      | false => simp [hb] at h
      | true =>
        simp only [hb, cond_true] at h
        split at h
        · rename_i q hq
          injection h with h; subst h
          obtain ⟨h1, h2⟩ := okParts_spec hq
          refine ⟨by simp [h1], fun i k e hi => ?_⟩
          cases i with
          | zero => simp at hi; obtain ⟨rfl, rfl⟩ := hi; exact ⟨beq_of hb, d, rfl, hy⟩
          | succ i => simp at hi; obtain ⟨h3, d', h4, h5⟩ := h2 i k e hi; exact ⟨h3, d', by simpa using h4, h5⟩
        · cases h
    · cases h

theorem cellsL_set {sz : Nat} : ∀ {xs : List D} {i : Nat} {d : D}, (∀ x, x ∈ xs → x.cells.length = sz) → d.cells.length = sz → i < xs.length → cellsL (xs.set i d) = setC (cellsL xs) (i * sz) d.cells
  | [], i, d, _, _, h => by simp at h
  | x :: xs, 0, d, hx, hd, _ => by
    have := hx x (by simp)
    simp [cellsL, setC, hd, ← this]
  | x :: xs, i + 1, d, hx, hd, h => by
    have h0 := hx x (by simp)
    have ih := cellsL_set (sz := sz) (xs := xs) (i := i) (d := d) (fun y hy => hx y (by simp [hy])) hd (by simpa using h)
    simp only [List.set_cons_succ, cellsL, List.map_cons, List.flatten_cons] at ih ⊢
    rw [ih]
    have e : (i + 1) * sz = x.cells.length + i * sz := by rw [h0, Nat.add_mul]; omega
    simp only [setC, e, List.take_append, Nat.add_assoc, List.drop_append, List.append_assoc]
    simp [List.take_of_length_le]

theorem fillL_fillV {sz : Nat} : ∀ {ps : List (Nat × D)} {xs ys : List D}, OkL sz xs → (∀ p, p ∈ ps → (p.2.cells.length = sz ∧ p.2.cells.all D.leaf = true) ∧ p.2.whole = true) → fillL xs ps = some ys →
    fillV (fun i => some (i * sz, sz)) (cellsL xs) ps = some (cellsL ys) ∧ ys.length = xs.length ∧ OkL sz ys
  | [], xs, ys, hx, _, h => by simp [fillL] at h; subst h; exact ⟨rfl, rfl, hx⟩
  | (i, d) :: ps, xs, ys, hx, hp, h => by
    simp only [fillL] at h
    split at h
    · rename_i hi
      obtain ⟨hd1, hd2⟩ := hp (i, d) (by simp)
      have hx' : OkL sz (xs.set i d) := fun x hx' => by
        rcases List.mem_or_eq_of_mem_set hx' with h | h
        · exact hx x h
        · subst h; exact hd1
      obtain ⟨h1, h2, h3⟩ := fillL_fillV hx' (fun p hp' => hp p (by simp [hp'])) h
      refine ⟨?_, by rw [h2]; simp, h3⟩
      have hl := cellsL_length hx.len
      have hfit : i * sz + sz ≤ (cellsL xs).length := by
        rw [hl]; have := Nat.mul_le_mul_right sz (show i + 1 ≤ xs.length by omega); rw [Nat.add_mul] at this; omega
      simp only [fillV]
      have hb : (Nat.beq d.cells.length sz && d.whole) = true := by simp [hd1.1, hd2]
      rw [hb]
      simp only [cond_true]
      rw [if_pos hfit, ← cellsL_set hx.len hd1.1 hi]
      exact h1
    · cases h

theorem zero_cells {sz : Nat} {zc : List D} (h : zc.length = sz) (hp : 0 < sz) {j : Nat} {d : D} : ∀ {n : Nat}, (List.replicate n zc).flatten[j]? = some d → j < n * sz ∧ zc[j % sz]? = some d
  | 0, hj => by simp at hj
  | n + 1, hj => by
    simp only [List.replicate_succ, List.flatten_cons] at hj
    rcases Nat.lt_or_ge j sz with hlt | hge
    · rw [List.getElem?_append_left (by omega)] at hj
      rw [Nat.mod_eq_of_lt hlt]
      exact ⟨by rw [Nat.add_mul]; omega, hj⟩
    · rw [List.getElem?_append_right (by omega), h] at hj
      obtain ⟨h1, h2⟩ := zero_cells h hp hj
      refine ⟨by rw [Nat.add_mul]; omega, ?_⟩
      rw [Nat.mod_eq_sub_mod hge]; exact h2

/-- A row of zeros. -/
theorem zero_row {bx : List Nat} {s : Nat → Nat} {n : Nat} {ti : TI} {z : Value} (hz : Rep bx s w ti.zero z) (hl : ti.zero.cells.length = ti.sz) (hp : 0 < ti.sz) :
    (cellsL (List.replicate n ti.zero)).length = ((Array.range (n * ti.sz)).map (z.cells[· % z.cells.size]!)).size ∧
      ∀ (j : Nat) (d : D), (cellsL (List.replicate n ti.zero))[j]? = some d → Rep bx s w d (((Array.range (n * ti.sz)).map (z.cells[· % z.cells.size]!)).getD j Go.undef) := by
  have hzs : z.cells.size = ti.sz := by rw [← hl]; exact hz.cells_len.symm
  refine ⟨by rw [cellsL_length (sz := ti.sz) (fun x hx => by rw [List.eq_of_mem_replicate hx, hl])]; simp, fun j d hj => ?_⟩
  have e : cellsL (List.replicate n ti.zero) = (List.replicate n ti.zero.cells).flatten := by simp [cellsL]
  rw [e] at hj
  obtain ⟨h1, h2⟩ := zero_cells hl hp hj
  obtain ⟨u, hu, hr⟩ := hz.cells_at h2
  have hlt : j % ti.sz < z.cells.size := by rw [hzs]; exact Nat.mod_lt _ hp
  have : ((Array.range (n * ti.sz)).map (z.cells[· % z.cells.size]!)).getD j Go.undef = u := by
    rw [hzs]
    simp [Array.getD, h1, hlt]
    have := hu
    rw [Array.getElem?_eq_getElem hlt] at this
    injection this
  rw [this]; exact hr

/-- A row that stays as it is. -/
theorem vec_new {bx : List Nat} {s : Nat → Nat} {sz : Nat} {xs : List D} {cs : Array Value} {k cap : Nat} {p : Perm} {t : TypeId} {fr : Nat × Nat} (hp : p = .none ∨ p = .exact ∧ cap = xs.length) (hcap : xs.length ≤ cap)
    (hsz : OkL sz xs) (hb : w.heap[k]? = some (.cells cs t fr)) (hs : xs.length * sz ≤ s k)
    (hl : (cellsL xs).length ≤ cs.size) (hr : ∀ (j : Nat) (d : D), (cellsL xs)[j]? = some d → Rep bx s w d (cs.getD j Go.undef)) : Rep bx s w (.vec sz xs p) (.slice (some ⟨k, 0, none⟩) xs.length cap) := by
  refine .vec sz xs p ⟨k, 0, none⟩ cap (fun i => cs.getD i Go.undef) (hp.imp id .inl) hcap hsz (fun i d hi => ?_) hr (fun _ => by simpa using hs)
  have hlt := lt_of_get hi
  rw [add_plain]
  have h := getD_some (vs := cs) (i := i) (by omega)
  show w.cell? ⟨k, 0 + i, none⟩ = some (cs.getD i Go.undef)
  generalize cs.getD i Go.undef = u at h ⊢
  simp [World.cell?, hb, h]

theorem run_buildSlice' {P : Program} (w : World) (t e : TypeId) (len : Nat) (parts : Array (Nat × Value)) (cells : Array Value) (ie : TypeInfo) (z : Value)
    (hu : P.underlying t = some (.slice e)) (hie : P.info? e = some ie) (hz : ie.zero = some z) (hsmall : ¬ len * ie.size > 16777216)
    (h : Instr.fill (fun i => some (i * ie.size, ie.size)) ((Array.range (len * ie.size)).map (z.cells[· % z.cells.size]!)) parts.toList = some cells) :
    (Instr.buildSlice t len parts).run P w = .ok (.slice (some ⟨w.heap.size, 0, none⟩) len len) (w.alloc (.cells cells e)) := by
  by_cases h0 : len * ie.size = 0
  · rw [h0] at h
    have e0 : (Array.range 0).map (z.cells[· % z.cells.size]!) = #[] := by simp
    rw [e0] at h
    have e1 : (Array.map (fun _ => (default : Value)) (Array.range 0)) = #[] := by simp
    simp [Instr.buildSlice, run_underlying hu, sizeOf, typeInfo, zeroValue, hie, hz, h0, e1, h, newRow, newObj, Sem.run]
  · exact run_buildSlice w t e len parts cells ie z hu hie hz (by simpa using hsmall) h0 h

theorem leaf_cells {d : D} (h : d.leaf = true) : d.cells = [d] := by cases d <;> first | rfl | (simp [D.leaf] at h)

theorem cellsL_leaf : ∀ {xs : List D}, (∀ x, x ∈ xs → x.leaf = true) → cellsL xs = xs
  | [], _ => rfl
  | x :: xs, h => by
    have ih := cellsL_leaf (xs := xs) (fun y hy => h y (by simp [hy]))
    have hx := leaf_cells (h x (by simp))
    simp only [cellsL, List.map_cons, List.flatten_cons] at ih ⊢
    rw [hx, ih]; rfl

theorem op_buildSlice {T : Tab} (hT : TabOk c.P T) {st : St} {a : Act} {o : Oper} {t e : TypeId} {len : Nat} {parts : Array (Nat × Operand)} {ti ei : TI} {ps : List (Nat × D)} {xs : List D} (ho : o.op = .buildSlice t len parts)
    (hf : FS c g st.L st.τ st.B w) (he : EnvR c g (dom st.L) st.τ.length w st.ρ a) (ht : T t = some ti) (htd : ti.d = .slice e) (hei : T e = some ei) {ty : Nat → TypeId} (hps : okParts ei.sz (partsV T ty st.ρ parts.toList) = some ps)
    (h0 : ei.sz ≠ 0) (hsmall : len * ei.sz ≤ 16777216) (hfill : fillL (List.replicate len ei.zero) ps = some xs) : OpOk c g st w a o (.vec ei.sz xs .exact) st ∧
      (ei.sz = 1 → xs.all D.leaf = true → OpOk c g st w a o (.lsl st.L.length 0 xs.length 1) { st with L := st.L ++ [some xs] }) := by
  have hund : c.P.underlying t = some (.slice e) := desc_of hT ht htd
  obtain ⟨ie, z, hie, hes, _, hz, hrz⟩ := hT.info e ei hei
  have hzl := hT.zlen e ei hei
  obtain ⟨hlen, hparts⟩ := partsV_spec (T := T) (ty := ty) he parts.toList
  obtain ⟨hpl, hpp⟩ := okParts_spec hps
  have hrep : OkL ei.sz (List.replicate len ei.zero) := fun x hx => by rw [List.eq_of_mem_replicate hx]; exact ⟨hzl, hT.zleaf e ei hei⟩
  have hpw : ∀ p, p ∈ ps → (p.2.cells.length = ei.sz ∧ p.2.cells.all D.leaf = true) ∧ p.2.whole = true := fun p hp => by
    obtain ⟨i, hi⟩ := List.getElem?_of_mem hp
    obtain ⟨h1, d, _, h2⟩ := hpp i p.1 p.2 hi
    exact ⟨⟨h1, demoteC_leaf h2⟩, (demoteC_whole h2).1⟩
  obtain ⟨hv, hxl, hxs⟩ := fillL_fillV hrep hpw hfill
  rw [List.length_replicate] at hxl
  obtain ⟨hz1, hz2⟩ := zero_row (n := len) (hrz g.bx g.s w) hzl (Nat.pos_of_ne_zero h0)
  obtain ⟨cs, h1, h2, h3⟩ := fill_spec (Rep g.bx g.s w) _ (fun i => some (i * ie.size, ie.size)) (fun i p hp => by rw [hes]; exact hp) ps (parts.toList.map fun (i, x) => (i, a.eval x)) _ _ _ (by rw [← hpl, hlen])
    (fun i k d hi => by
      obtain ⟨_, d', hd', hdm⟩ := hpp i k d hi
      obtain ⟨v, hv, hr⟩ := hparts i k d' hd'
      have hc := demoteC_clean hdm hr
      exact ⟨v, hv, fun _ => ⟨hc.cells_len, fun j e hj => by obtain ⟨u, hu, hru⟩ := hc.cells_at hj; simp [Array.getD_eq_getD_getElem?, hu]; exact hru⟩⟩) hz1 hz2 hv
  have hcl := cellsL_length hxs.len
  have hcsz : cs.size = len * ei.sz := by rw [← h2, hcl, hxl]
  have hrun := run_buildSlice' (P := c.P) w t e len (parts.map fun (i, x) => (i, a.eval x)) cs ie z hund hie hz (by rw [hes]; omega) (by rw [Array.toList_map, hes]; rw [hes] at h1; exact h1)
  constructor
  · obtain ⟨a1, a2⟩ := hf.alloc_stable cs e (len * ei.sz)
    refine .value (v := .slice (some ⟨w.heap.size, 0, none⟩) len len) (g' := g.withS w.heap.size (len * ei.sz)) (by simp [execOp, ho, hrun]) a1 a2 ?_
    have hnew := heap_alloc_new w (.cells cs e)
    have := vec_new (bx := g.bx) (s := (g.withS w.heap.size (len * ei.sz)).s) (w := w.alloc (.cells cs e)) (sz := ei.sz) (xs := xs) (cs := cs) (k := w.heap.size) (cap := len) (p := .exact) (t := e) (fr := (0, 0)) (.inr ⟨rfl, hxl.symm⟩)
      (by omega) hxs hnew (by simp [Gh.withS, hxl]) (by omega) (fun j d hj => (h3 j d hj).mono a2.ev)
    rw [hxl] at this
    exact .clean _ _ this
  · intro h1 hlf
    have hleaf : ∀ x, x ∈ xs → x.leaf = true := List.all_eq_true.1 hlf
    have hcx : cellsL xs = xs := cellsL_leaf hleaf
    rw [hcx] at h2 h3
    obtain ⟨a1, a2⟩ := hf.alloc_box cs e (0, 0) xs (nofr_zero _) (fun j d hj => by
      have hlt := lt_of_get hj
      exact ⟨_, getD_some (by omega), .clean _ _ (h3 j d hj)⟩)
    refine .value (v := .slice (some ⟨w.heap.size, 0, none⟩) len len) (by simp [execOp, ho, hrun]) a1 a2 ?_
    have : (g.newL st.L.length w.heap.size).loc st.L.length = w.heap.size := by simp [Gh.newL]
    have h4 := RepF.lsl (c := c) (g := g.newL st.L.length w.heap.size) (nL := dom (st.L ++ [some xs])) (nT := st.τ.length) (w := w.alloc (.cells cs e)) st.L.length 0 xs.length 1 len (dom_new _ _) (by omega)
    rw [this, hxl] at h4
    rw [hxl]; exact h4

end Go.Proofs.YtploddijjofphaaDoor.V
