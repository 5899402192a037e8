/-
Parts of values, elements of texts, interfaces; what is built; conversions; lengths, the greatest and the least.
-/
import Derived.Test.YtploddijjofphaaDoorUK
import Derived.Laws.BytesString
namespace Go.Proofs.YtploddijjofphaaDoor.V
set_option linter.unusedSimpArgs false
set_option linter.unusedVariables false
open Go Go.RowKit

variable {c : Cx} {g : Gh} {nL : Nat → Prop} {nT : Nat} {w : World}

theorem run_part_of {P : Program} {T : Tab} (hT : TabOk P T) {u : TypeId} {ui : TI} (ht : T u = some ui) {ds : List D} {vs : Array Value} {off : Nat} {d : D} (hl : ds.length = vs.size)
    (hr : ∀ i e, ds[i]? = some e → RepF c g nL nT w e (vs.getD i Go.undef)) (hd : partV ui ds off = some d) : ∃ v, (part u vs off).run P w = .ok v w ∧ RepF c g nL nT w d v := by
  unfold partV at hd
  cases hs : (ui.agg || Nat.beq ui.sz 1) with
  | false => simp [hs] at hd
  | true =>
    simp only [hs, cond_true] at hd
    unfold loadC at hd
    split at hd
    · rename_i hfit
      rcases Bool.eq_false_or_eq_true ui.agg with ha | ha
      · simp only [ha, cond_true, Option.some.injEq] at hd
        subst hd
        have hrun := run_part_agg hT ht vs.toList off ha w
        simp only [Array.toArray_toList, valOf, ha, if_true] at hrun
        refine ⟨_, hrun, .agg _ _ (by simp; omega) (fun i e hi => ?_)⟩
        have hlt := lt_of_get hi
        simp at hlt
        rw [List.getElem?_take_of_lt (by omega), List.getElem?_drop] at hi
        have := hr _ _ hi
        have h1 : i < ui.sz := by omega
        have h2 : off + i < vs.size := by omega
        have h3 : i < min ui.sz (vs.size - off) := by omega
        simpa [Array.getD, h1, h2, h3, List.getElem?_take_of_lt] using this
      · simp only [ha, cond_false] at hd
        have hlt := lt_of_get hd
        have hv : vs[off]? = some (vs.getD off Go.undef) := getD_some (by omega)
        exact ⟨_, by have := run_part_leaf hT ht vs.toList off ha (vs.getD off Go.undef) (by simpa using hv) w; simpa using this, hr _ _ hd⟩
    · cases hd

theorem op_field {T : Tab} (hT : TabOk c.P T) {st : St} {a : Act} {o : Oper} {t : TypeId} {x : Operand} {f off : Nat} {u : TypeId} {ti ui : TI} {fs : List (Nat × TypeId)} {ds : List D} {d : D} (ho : o.op = .field t x f)
    (hf : FS c g st.L st.τ st.B w) (he : EnvR c g (dom st.L) st.τ.length w st.ρ a) (ht : T t = some ti) (htd : ti.d = .struct fs) (hfs : fs[f]? = some (off, u)) (hu : T u = some ui)
    (hx : eval st.ρ x = .agg ds) (hd : partV ui ds off = some d) : OpOk c g st w a o d st := by
  have hr := he.eval x
  rw [hx] at hr
  obtain ⟨vs, hv, hl, hr⟩ := hr.agg_inv
  obtain ⟨fields, fd, hund, hfd, h1, h2⟩ := field_of (desc_of hT ht htd) hfs
  obtain ⟨v, hrun, hrv⟩ := run_part_of hT hu hl hr hd
  refine .pure (v := v) ?_ hf hrv
  simp [execOp, ho, Instr.field, hv, run_underlying hund, hfd, asAgg, h1, h2, hrun]

theorem op_index_str {T : Tab} (hT : TabOk c.P T) {st : St} {a : Act} {o : Oper} {t : TypeId} {x i : Operand} {j : Nat} {ti : TI} {s : List UInt8} {b : UInt8} (ho : o.op = .index t x i)
    (hf : FS c g st.L st.τ st.B w) (he : EnvR c g (dom st.L) st.τ.length w st.ρ a) (ht : T t = some ti) (htd : ti.d = .str) (hj : natV (eval st.ρ i) = some j)
    (hx : eval st.ρ x = .str s) (hb : s[j]? = some b) : OpOk c g st w a o (byteD b) st := by
  have hr := he.eval x
  rw [hx] at hr
  obtain ⟨by_, hv, hby⟩ := hr.str_inv
  obtain ⟨k, n, _, hi, h0, hn⟩ := natV_inv hj (he.eval i)
  have hund : c.P.underlying t = some .string := desc_of hT ht htd
  have hlt := lt_of_get hb
  have hlt2 : n.toNat < by_.size := by rw [← hby] at hlt; simp at hlt; omega
  have hget : by_[n.toNat]? = some b := by
    rw [getElem?_pos by_ n.toNat hlt2]
    have : by_.data.toList[n.toNat]? = some b := by rw [hby, hn]; exact hb
    have h2 : n.toNat < by_.data.size := hlt2
    rw [Array.getElem?_toList, Array.getElem?_eq_getElem h2] at this
    exact this
  refine .pure (v := .int .u8 b.toNat) ?_ hf (.clean _ _ (.int _ _))
  simp [execOp, ho, Instr.index, hv, hi, asIntOf, run_underlying hund, h0, hget]

theorem op_index_arr {T : Tab} (hT : TabOk c.P T) {st : St} {a : Act} {o : Oper} {t : TypeId} {x i : Operand} {j n : Nat} {e : TypeId} {ti ei : TI} {ds : List D} {d : D} (ho : o.op = .index t x i)
    (hf : FS c g st.L st.τ st.B w) (he : EnvR c g (dom st.L) st.τ.length w st.ρ a) (ht : T t = some ti) (htd : ti.d = .array n e) (hei : T e = some ei) (hj : natV (eval st.ρ i) = some j) (hjn : j < n)
    (hx : eval st.ρ x = .agg ds) (hd : partV ei ds (j * ei.sz) = some d) : OpOk c g st w a o d st := by
  have hr := he.eval x
  rw [hx] at hr
  obtain ⟨vs, hv, hl, hr⟩ := hr.agg_inv
  obtain ⟨k, z, _, hi, h0, hn⟩ := natV_inv hj (he.eval i)
  have hund : c.P.underlying t = some (.array n e) := desc_of hT ht htd
  obtain ⟨v, hrun, hrv⟩ := run_part_of hT hei hl hr hd
  refine .pure (v := v) ?_ hf hrv
  have hb : 0 ≤ z ∧ z < (n : Int) := ⟨h0, by omega⟩
  have hs := run_sizeOf' (w := w) hT hei
  simp [execOp, ho, Instr.index, hv, hi, asIntOf, run_underlying hund, hb, hs, hn, hrun]

theorem op_nilCheck {st : St} {a : Act} {o : Oper} {x : Operand} {d : D} (ho : o.op = .nilCheck x) (hf : FS c g st.L st.τ st.B w) (he : EnvR c g (dom st.L) st.τ.length w st.ρ a)
    (hx : eval st.ρ x = d) (hd : (∃ i off, d = .lptr i off) ∨ (∃ b off, d = .bptr b off) ∨ ∃ ds, d = .fptr ds) : OpOk c g st w a o d st := by
  have hr := he.eval x
  rw [hx] at hr
  have hv : ∃ ad, a.eval x = .pointer (some ad) := by
    rcases hd with ⟨i, off, rfl⟩ | ⟨b, off, rfl⟩ | ⟨ds, rfl⟩
    · exact ⟨_, hr.lptr_inv.1⟩
    · obtain ⟨_, _, hv⟩ := hr.bptr_inv; exact ⟨_, hv⟩
    · exact hr.fptr_inv.fptr_val
  obtain ⟨ad, hv⟩ := hv
  refine .pure (v := a.eval x) ?_ hf hr
  simp [execOp, ho, hv]

theorem flat_clean {d : D} (hd : d.flat = true) {v : Value} (h : RepF c g nL nT w d v) : Rep g.bx g.s w d v := by
  cases h with
  | clean _ _ h => exact h
  | _ => simp [D.flat] at hd

/-- A function, and what it holds. -/
theorem op_makeFunc {st : St} {a : Act} {o : Oper} {f : FuncId} {first caps : Array Operand} (ho : o.op = .makeFunc (.func f) first caps) (hfi : first.toList = []) (hf : FS c g st.L st.τ st.B w)
    (he : EnvR c g (dom st.L) st.τ.length w st.ρ a) (hc : (capsV st.ρ caps.toList).all D.flat = true) : OpOk c g st w a o (.fn f (capsV st.ρ caps.toList)) st := by
  have e0 : first = #[] := by apply Array.ext'; simpa using hfi
  refine .pure (v := .func (.func f) #[] (caps.map a.eval)) ?_ hf (.clean _ _ (.fn f _ _ (by simp [capsV]) (fun i d hi => ?_)))
  · subst e0
    simp [execOp, ho, Instr.makeFunc]
  · have hm := List.mem_of_getElem? hi
    have hfl := List.all_eq_true.1 hc d hm
    unfold capsV at hi
    rw [List.getElem?_map] at hi
    cases hq : caps.toList[i]? with
    | none => rw [hq] at hi; cases hi
    | some x =>
      rw [hq] at hi
      injection hi with hi; subst hi
      have : (caps.map a.eval).getD i Go.undef = a.eval x := by
        have hq' : caps[i]? = some x := by simpa using hq
        simp [Array.getD_eq_getD_getElem?, hq']
      rw [this]
      exact flat_clean hfl (he.eval x)

theorem op_makeInterface {T : Tab} (hT : TabOk c.P T) {st : St} {a : Act} {o : Oper} {t : TypeId} {x : Operand} {ti : TI} (ho : o.op = .makeInterface t x) (hf : FS c g st.L st.τ st.B w)
    (he : EnvR c g (dom st.L) st.τ.length w st.ρ a) (ht : T t = some ti) (h1 : ti.d ≠ .iface) (h2 : ti.d ≠ .other) {T' : Tab} (hg : (evalT T' t st.ρ x).global = true) : OpOk c g st w a o (.iface t (evalT T' t st.ρ x)) st := by
  have hr := global_clean hg (he.evalT x)
  refine .pure (v := .iface t (a.eval x)) ?_ hf (.clean _ _ (.iface _ _ _ hr))
  have hd := hT.desc t ti ht
  cases htd : ti.d with
  | iface => exact absurd htd h1
  | other => exact absurd htd h2
  | struct fs => rw [htd] at hd; obtain ⟨fields, hu, _⟩ := hd; simp [execOp, ho, Instr.makeInterface, run_underlying hu]
  | func => rw [htd] at hd; obtain ⟨_, _, _, hu⟩ := hd; simp [execOp, ho, Instr.makeInterface, run_underlying hu]
  | _ => rw [htd] at hd; simp only [DescOk] at hd; simp [execOp, ho, Instr.makeInterface, run_underlying hd]

/-! ### What is built -/
theorem foldl_fill (off : Nat) : ∀ (l : List Value) (k : Nat) (cells : Array Value) (j : Nat), off + k + l.length ≤ cells.size →
    ((l.zipIdx k).foldl (fun cs (c : Value × Nat) => cs.setIfInBounds (off + c.2) c.1) cells)[j]? = if off + k ≤ j ∧ j < off + k + l.length then l[j - (off + k)]? else cells[j]?
  | [], k, cells, j, _ => by simp; omega
  | v :: l, k, cells, j, h => by
    simp only [List.zipIdx_cons, List.foldl_cons, List.length_cons] at h ⊢
    rw [foldl_fill off l (k + 1) _ j (by simp; omega)]
    by_cases h1 : off + (k + 1) ≤ j ∧ j < off + (k + 1) + l.length
    · rw [if_pos h1, if_pos (by omega), show j - (off + k) = (j - (off + (k + 1))) + 1 by omega, List.getElem?_cons_succ]
    · rw [if_neg h1]
      by_cases h2 : j = off + k
      · subst h2
        rw [if_pos (by omega)]
        simp [Array.getElem?_setIfInBounds]; omega
      · rw [if_neg (by omega), Array.getElem?_setIfInBounds_ne (by omega)]

theorem foldl_fill_size (off : Nat) : ∀ (l : List Value) (k : Nat) (cells : Array Value), ((l.zipIdx k).foldl (fun cs (c : Value × Nat) => cs.setIfInBounds (off + c.2) c.1) cells).size = cells.size
  | [], _, _ => rfl
  | v :: l, k, cells => by
    simp only [List.zipIdx_cons, List.foldl_cons]
    rw [foldl_fill_size off l (k + 1)]; simp

theorem fill_spec (R : D → Value → Prop) (place place' : Nat → Option (Nat × Nat)) (hpl : ∀ i p, place i = some p → place' i = some p) : ∀ (parts : List (Nat × D)) (vals : List (Nat × Value)) (ds : List D) (cells : Array Value) (es : List D),
    parts.length = vals.length → (∀ (i k : Nat) (d : D), parts[i]? = some (k, d) → ∃ v : Value, vals[i]? = some (k, v) ∧ (d.solid → d.cells.length = v.cells.size ∧ ∀ (j : Nat) (e : D), d.cells[j]? = some e → R e (v.cells.getD j Go.undef))) →
    ds.length = cells.size → (∀ (j : Nat) (d : D), ds[j]? = some d → R d (cells.getD j Go.undef)) → fillV place ds parts = some es →
    ∃ cs : Array Value, Instr.fill place' cells vals = some cs ∧ es.length = cs.size ∧ ∀ (j : Nat) (d : D), es[j]? = some d → R d (cs.getD j Go.undef)
  | [], vals, ds, cells, es, hl, _, hlen, hr, h => by
    cases vals with
    | nil => simp [fillV] at h; subst h; exact ⟨cells, rfl, hlen, hr⟩
    | cons _ _ => simp at hl
  | (k, d) :: parts, vals, ds, cells, es, hl, hp, hlen, hr, h => by
    cases vals with
    | nil => simp at hl
    | cons v vals =>
      obtain ⟨v0, hv, hcell⟩ := hp 0 k d rfl
      simp at hv; subst hv
      simp only [fillV] at h
      split at h
      · rename_i off size hplace
        cases hc : (Nat.beq d.cells.length size && d.whole) with
        | false => simp [hc] at h
        | true =>
          simp only [hc, cond_true] at h
          simp only [Bool.and_eq_true] at hc
          have hsz := beq_of hc.1
          have hsol : d.solid := by cases d <;> first | trivial | (exact absurd hc.2 (by simp [D.whole]))
          obtain ⟨e1, e2⟩ := hcell hsol
          split at h
          · rename_i hfit
            have hmatch : (v0.cells.size ≠ size || off + v0.cells.size > cells.size) = false := by simp; omega
            have hcs : ∀ j : Nat, (v0.cells.zipIdx.foldl (fun cs (c, j) => cs.setIfInBounds (off + j) c) cells)[j]? = if off ≤ j ∧ j < off + size then v0.cells[j - off]? else cells[j]? := fun j => by
              have := foldl_fill off v0.cells.toList 0 cells j (by simp; omega)
              rw [← Array.foldl_toList]
              simp only [Array.toList_zipIdx]
              rw [this]; simp; rw [← e1, hsz]
            have hcz : (v0.cells.zipIdx.foldl (fun cs (c, j) => cs.setIfInBounds (off + j) c) cells).size = cells.size := by
              have := foldl_fill_size off v0.cells.toList 0 cells
              rw [← Array.foldl_toList]
              simp only [Array.toList_zipIdx]
              exact this
            obtain ⟨cs, h1, h2, h3⟩ := fill_spec R place place' hpl parts vals (setC ds off d.cells) _ es (by simpa using hl) (fun i k d hi => by have := hp (i + 1) k d (by simpa using hi); simpa using this)
              (by rw [hcz]; unfold setC; simp; omega) (fun j e hj => by
                rw [setC_get ds off _ (by omega) j] at hj
                have hg := hcs j
                by_cases hin : off ≤ j ∧ j < off + d.cells.length
                · rw [if_pos hin] at hj
                  rw [if_pos (by omega)] at hg
                  have := e2 _ _ hj
                  have hlt := lt_of_get hj
                  have hv0 := getD_some (vs := v0.cells) (i := j - off) (by omega)
                  rw [hv0] at hg
                  simp only [Array.getD_eq_getD_getElem?, hg, Option.getD_some]
                  simpa [Array.getD_eq_getD_getElem?] using this
                · rw [if_neg hin] at hj
                  rw [if_neg (by omega)] at hg
                  have := hr _ _ hj
                  simp only [Array.getD_eq_getD_getElem?, hg]
                  simpa [Array.getD_eq_getD_getElem?] using this) h
            refine ⟨cs, ?_, h2, h3⟩
            simp only [Instr.fill, hpl _ _ hplace]
            rw [if_neg (by simp at hmatch ⊢; omega)]
            exact h1
          · cases h
      · cases h

end Go.Proofs.YtploddijjofphaaDoor.V
