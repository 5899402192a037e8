import Derived.Test.YtbbbhalmlboapaaDoorUN
import Derived.Deep.AppendSrc
import Derived.Room.Entries
/-
What is read as a row; conversions; append; copy.
-/
namespace Go.Proofs.YtbbbhalmlboapaaDoor.V
set_option linter.unusedSimpArgs false
set_option linter.unusedVariables false
open Go Go.RowKit

variable {c : Cx} {g : Gh} {nL : Nat → Prop} {nT : Nat} {w : World}

theorem Rep.leafy {bx : List Nat} {s : Nat → Nat} {d : D} {v : Value} (hd : d.leaf = true) (h : Rep bx s w d v) : v.oneCell' = true := by
  cases h <;> first | rfl | (simp [D.leaf] at hd)

/-- What is read as a row. -/
structure RowAt (c : Cx) (g : Gh) (w : World) (P : Program) (sz : Nat) (xs : List D) (v : Value) (us : List Value) : Prop where
  ok : OkL sz xs
  len : ∀ w' : World, (Builtin.lenOf v).run P w' = .ok xs.length w'
  cells : ∀ w' : World, w'.heap = w.heap → (Builtin.firstCells sz xs.length v).run P w' = .ok us.toArray w'
  size : us.length = xs.length * sz
  one : ∀ u ∈ us, u.oneCell' = true
  rep : ∀ (j : Nat) (d : D), (cellsL xs)[j]? = some d → ∃ u, us[j]? = some u ∧ Rep g.bx g.s w d u

theorem cell_heap {w w' : World} (h : w'.heap = w.heap) (a : Addr) : w'.cell? a = w.cell? a := World.cell?_of_block (by rw [h])

theorem elems_spec {P : Program} {st : St} {sz : Nat} {x : D} {v : Value} {xs : List D} (hf : FS c g st.L st.τ st.B w) (hr : RepF c g (dom st.L) st.τ.length w x v) (h : st.elems sz x = some xs) :
    ∃ us, RowAt c g w P sz xs v us := by
  cases x <;> simp only [St.elems] at h <;> try (cases h; done)
  case vec sz' ys p =>
    cases hb : Nat.beq sz' sz with
    | false => simp [hb] at h
    | true =>
      simp only [hb, cond_true, Option.some.injEq] at h
      have hb := beq_of hb
      subst hb; subst h
      have hv := hr.vec_inv
      cases hv with
      | nilv => exact ⟨[], ⟨fun x hx => (by cases hx), fun _ => rfl, fun _ _ => rfl, by simp, fun u hu => (by cases hu), fun j d hj => by simp [cellsL] at hj⟩⟩
      | vec _ _ _ a cap vs hp hcap hok hc hrep hs =>
        have hl := cellsL_length hok.len
        have hcell : ∀ j, j < ys.length * sz' → w.cell? (a.add j) = some (vs j) := fun j hj => hc j _ (List.getElem?_eq_getElem (by omega))
        refine ⟨(List.range (ys.length * sz')).map vs, ⟨hok, fun _ => rfl, fun w' hw => ?_, by simp, fun u hu => ?_, fun j d hj => ?_⟩⟩
        · have := run_loadCells (P := P) w' a (ys.length * sz') vs (fun j hj => by rw [cell_heap hw]; exact hcell j hj)
          simpa [Builtin.firstCells] using this
        · obtain ⟨j, hj, rfl⟩ := List.mem_map.1 hu
          have hj := List.mem_range.1 hj
          have hd := List.getElem?_eq_getElem (l := cellsL ys) (i := j) (by omega)
          exact (hrep j _ hd).leafy (hok.leaf hd)
        · have hlt := lt_of_get hj
          exact ⟨vs j, by simp [show j < ys.length * sz' by omega], hrep j d hj⟩
  case lsl i off len sz' =>
    cases hb : (Nat.beq sz' 1 && Nat.beq sz 1) with
    | false => simp [hb] at h
    | true =>
      simp only [hb, cond_true] at h
      simp only [Bool.and_eq_true] at hb
      have hb1 := beq_of hb.1
      have hb2 := beq_of hb.2
      subst hb1; subst hb2
      split at h
      · rename_i ds hL
        split at h
        · rename_i hfit
          cases hg : ds.all D.global with
          | false => simp [hg] at h
          | true =>
            simp only [hg, cond_true, Option.some.injEq] at h
            subst h
            obtain ⟨cap, rfl, hi, hcap⟩ := hr.lsl_inv
            obtain ⟨_, cs, t, fr, hh, _, hc⟩ := hf.boxL i ds hL
            have hgl : ∀ d, d ∈ ds → d.global = true := List.all_eq_true.1 hg
            have hleaf : ∀ d, d ∈ (ds.drop off).take len → d.leaf = true := fun d hd => global_leaf (hgl d (List.mem_of_mem_drop (List.mem_of_mem_take hd)))
            have hcl := cellsL_leaf hleaf
            have hlen : ((ds.drop off).take len).length = len := by simp; omega
            let vs : Nat → Value := fun j => cs.getD (off + j) Go.undef
            have hat : ∀ j, j < len → ∃ d, ds[off + j]? = some d ∧ cs[off + j]? = some (vs j) ∧ Rep g.bx g.s w d (vs j) ∧ d.leaf = true := fun j hj => by
              have hd := List.getElem?_eq_getElem (l := ds) (i := off + j) (by omega)
              obtain ⟨u, hu, hru⟩ := hc _ _ hd
              have hm := List.mem_of_getElem? hd
              have e : vs j = u := by simp [vs, Array.getD_eq_getD_getElem?, hu]
              exact ⟨_, hd, by rw [e]; exact hu, by rw [e]; exact global_clean (hgl _ hm) hru, global_leaf (hgl _ hm)⟩
            refine ⟨(List.range len).map vs, ⟨fun x hx => ?_, fun _ => by rw [hlen]; rfl, fun w' hw => ?_, by simp [hlen], fun u hu => ?_, fun j d hj => ?_⟩⟩
            · rw [leaf_cells (hleaf x hx)]; exact ⟨rfl, by simp [hleaf x hx]⟩
            · have := run_loadCells (P := P) w' ⟨g.loc i, off, none⟩ len vs (fun j hj => by
                obtain ⟨d, _, h2, _⟩ := hat j hj
                rw [cell_heap hw, add_plain]; simp [World.cell?, hh, h2])
              rw [hlen]
              simpa [Builtin.firstCells] using this
            · obtain ⟨j, hj, rfl⟩ := List.mem_map.1 hu
              obtain ⟨d, _, _, h3, h4⟩ := hat j (List.mem_range.1 hj)
              exact h3.leafy h4
            · rw [hcl] at hj
              have hlt := lt_of_get hj
              rw [hlen] at hlt
              rw [List.getElem?_take_of_lt hlt, List.getElem?_drop] at hj
              obtain ⟨d', h1, _, h3, _⟩ := hat j hlt
              rw [h1] at hj; injection hj with hj; subst hj
              exact ⟨vs j, by simp [hlt], h3⟩
        · cases h
      · cases h
  case str s =>
    cases hb : Nat.beq sz 1 with
    | false => simp [hb] at h
    | true =>
      simp only [hb, cond_true, Option.some.injEq] at h
      have hb := beq_of hb
      subst hb; subst h
      obtain ⟨b, rfl, hbs⟩ := hr.str_inv
      have hlen : s.length = b.size := by rw [← hbs]; simp
      have hcl : cellsL (s.map byteD) = s.map byteD := cellsL_leaf (fun x hx => by obtain ⟨b, _, rfl⟩ := List.mem_map.1 hx; rfl)
      refine ⟨byteCells b, ⟨fun x hx => ?_, fun _ => by simp [Builtin.lenOf, hlen], fun w' _ => ?_, by rw [byteCells_length]; simp [hlen], fun u hu => ?_, fun j d hj => ?_⟩⟩
      · obtain ⟨b, _, rfl⟩ := List.mem_map.1 hx; exact ⟨rfl, rfl⟩
      · rw [List.length_map, hlen]; exact firstCells_string b w'
      · obtain ⟨_, _, rfl⟩ := List.mem_map.1 hu; rfl
      · rw [hcl] at hj
        simp only [List.getElem?_map, Option.map_eq_some_iff] at hj
        obtain ⟨y, hy, rfl⟩ := hj
        refine ⟨.int .u8 y.toNat, ?_, .int _ _⟩
        unfold byteCells
        rw [hbs]; simp [hy]

/-! ### Conversions -/
theorem bytesOf_spec : ∀ {xs : List D} {bs : List UInt8}, bytesOf xs = some bs → xs.length = bs.length ∧ ∀ (j : Nat) (b : UInt8), bs[j]? = some b → ∃ n : Int, xs[j]? = some (.int .u8 n) ∧ b = UInt8.ofNat n.toNat
  | [], bs, h => by simp [bytesOf] at h; subst h; exact ⟨rfl, fun j b hj => by simp at hj⟩
  | x :: xs, bs, h => by
    simp only [bytesOf] at h
    split at h
    · rename_i b hb
      split at h
      · rename_i bs' hbs
        injection h with h; subst h
        obtain ⟨h1, h2⟩ := bytesOf_spec hbs
        refine ⟨by simp [h1], fun j b' hj => ?_⟩
        cases j with
        | zero =>
          simp at hj; subst hj
          cases x <;> simp only [byteOf] at hb <;> try (cases hb; done)
          rename_i k n
          cases k <;> simp at hb
          exact ⟨n, rfl, hb.symm⟩
        | succ j => simp at hj; obtain ⟨n, h3, h4⟩ := h2 j b' hj; exact ⟨n, by simpa using h3, h4⟩
      · cases h
    · cases h

theorem foldl_push (ns : List Int) : ∀ r : ByteArray, ns.foldl (fun r n => r.push (UInt8.ofNat n.toNat)) r = ⟨r.data ++ (ns.map fun n => UInt8.ofNat n.toNat).toArray⟩ := by
  induction ns with
  | nil => intro r; simp
  | cons n ns ih => intro r; simp only [List.foldl_cons]; rw [ih]; simp [ByteArray.push]

/-- The cells of single bytes. -/
theorem byte_cells {P : Program} {xs : List D} {v : Value} {us : List Value} {bs : List UInt8} (h : RowAt c g w P 1 xs v us) (hb : bytesOf xs = some bs) :
    ∃ ns : List Int, us = ns.map (Value.int .u8) ∧ bs = ns.map fun n => UInt8.ofNat n.toNat := by
  obtain ⟨h1, h2⟩ := bytesOf_spec hb
  have hsz := h.size
  rw [Nat.mul_one] at hsz
  have hleaf : ∀ x, x ∈ xs → x.leaf = true := fun x hx => by
    obtain ⟨j, hj⟩ := List.getElem?_of_mem hx
    have hlt := lt_of_get hj
    obtain ⟨n, h3, _⟩ := h2 j _ (List.getElem?_eq_getElem (l := bs) (i := j) (by omega))
    rw [h3] at hj; injection hj with hj; subst hj; rfl
  have hcl := cellsL_leaf hleaf
  refine ⟨us.map fun u => match u with | .int _ n => n | _ => 0, ?_, ?_⟩
  · apply List.ext_getElem?
    intro j
    rcases Nat.lt_or_ge j us.length with hj | hj
    · obtain ⟨n, h3, _⟩ := h2 j _ (List.getElem?_eq_getElem (l := bs) (i := j) (by omega))
      rw [← hcl] at h3
      obtain ⟨u, hu, hr⟩ := h.rep j _ h3
      cases hr
      simp [hu]
    · simp [List.getElem?_eq_none hj]
  · apply List.ext_getElem?
    intro j
    rcases Nat.lt_or_ge j us.length with hj | hj
    · have hbj := List.getElem?_eq_getElem (l := bs) (i := j) (by omega)
      obtain ⟨n, h3, h4⟩ := h2 j _ hbj
      rw [← hcl] at h3
      obtain ⟨u, hu, hr⟩ := h.rep j _ h3
      cases hr
      rw [hbj, h4]
      simp [hu]
    · rw [List.getElem?_eq_none (by omega), List.getElem?_eq_none (by simp; omega)]

theorem run_bytes_back {P : Program} {xs : List D} {v : Value} {us : List Value} {bs : List UInt8} (h : RowAt c g w P 1 xs v us) (hb : bytesOf xs = some bs) (hv : v = .slice none 0 0 ∨ ∃ a cap, v = .slice (some a) xs.length cap) :
    (Conv.bytesToString v).run P w = .ok (.string ⟨bs.toArray⟩) w := by
  obtain ⟨ns, rfl, rfl⟩ := byte_cells h hb
  rcases hv with rfl | ⟨a, cap, rfl⟩
  · have h1 := h.len w
    simp [Builtin.lenOf] at h1
    have h2 := h.size
    rw [← h1] at h2
    simp at h2
    subst h2
    simp [Conv.bytesToString]
    rfl
  · have hc := h.cells w rfl
    have hl : (loadCells a xs.length).run P w = .ok (ns.map (Value.int .u8)).toArray w := by
      simpa [Builtin.firstCells] using hc
    rw [run_bytesToString w a xs.length cap ns hl, foldl_push]
    simp

theorem op_convert {T : Tab} (hT : TabOk c.P T) {st st' : St} {a : Act} {o : Oper} {s t : TypeId} {x : Operand} {own : Bool} {d : D} (ho : o.op = .convert s t x) (hf : FS c g st.L st.τ st.B w)
    (he : EnvR c g (dom st.L) st.τ.length w st.ρ a) (hd : convV T own s t st (evalT T s st.ρ x) = some (d, st')) : OpOk c g st w a o d st' := by
  have hr := he.evalT (T := T) (t := s) x
  unfold convV at hd
  split at hd
  · rename_i si di hs ht
    have hds := hT.desc s si hs
    have hus : ∃ ds, c.P.underlying s = some ds := by
      cases h : si.d <;> rw [h] at hds <;> simp only [DescOk] at hds
      case struct => obtain ⟨f, h, _⟩ := hds; exact ⟨_, h⟩
      case iface => obtain ⟨f, h⟩ := hds; exact ⟨_, h⟩
      case func => obtain ⟨_, _, _, h⟩ := hds; exact ⟨_, h⟩
      case other => obtain ⟨f, h, _⟩ := hds; exact ⟨_, h⟩
      all_goals exact ⟨_, hds⟩
    obtain ⟨ds, hus⟩ := hus
    split at hd
    · rename_i k k' n htd hx
      injection hd with hd; injection hd with h1 h2; subst h1; subst h2
      rw [hx] at hr
      obtain hv := hr.int_inv
      have hut : c.P.underlying t = some (.int k) := desc_of hT ht htd
      refine .pure (v := .int k (k.wrap n)) ?_ hf (.clean _ _ (.int _ _))
      simp [execOp, ho, hv, convert, run_underlying hus, run_underlying hut, Conv.intToInt]
    · rename_i l htd hx
      injection hd with hd; injection hd with h1 h2; subst h1; subst h2
      have hv' := hr
      rw [hx] at hr
      obtain ⟨b, hv, hb⟩ := hr.str_inv
      have hut : c.P.underlying t = some .string := desc_of hT ht htd
      refine .pure (v := .string b) ?_ hf (by rw [← hb]; exact .clean _ _ (.str _))
      simp [execOp, ho, hv, convert, run_underlying hus, run_underlying hut]
    · rename_i htd hnot
      have hut : c.P.underlying t = some .string := desc_of hT ht htd
      split at hd
      · rename_i e hsd
        have hus' : c.P.underlying s = some (.slice e) := desc_of hT hs hsd
        split at hd
        · rename_i ei hei
          split at hd
          · rename_i hed
            have hue : c.P.underlying e = some (.int .u8) := desc_of hT hei hed
            split at hd
            · rename_i xs hxs
              split at hd
              · rename_i bs hbs
                injection hd with hd; injection hd with h1 h2; subst h1; subst h2
                obtain ⟨us, hrow⟩ := elems_spec (P := c.P) hf hr hxs
                have hv : a.eval x = .slice none 0 0 ∨ ∃ ad cap, a.eval x = .slice (some ad) xs.length cap := by
                  have hl := hrow.len w
                  cases hx : evalT T s st.ρ x <;> rw [hx] at hr hxs hnot <;> simp only [St.elems] at hxs <;> try (cases hxs; done)
                  case str l => exact absurd rfl (hnot l)
                  case vec sz ys p =>
                    obtain ⟨hv, _⟩ | ⟨ad, cap, hv, _⟩ := hr.vec_inv.vec_shape
                    · exact .inl hv
                    rw [hv] at hl; simp [Builtin.lenOf] at hl
                    exact .inr ⟨ad, cap, by rw [hv, hl]⟩
                  case lsl i off len sz =>
                    obtain ⟨cap, hv, _⟩ := hr.lsl_inv
                    rw [hv] at hl; simp [Builtin.lenOf] at hl
                    exact .inr ⟨_, cap, by rw [hv, hl]⟩
                have hrun := run_bytes_back hrow hbs hv
                refine .pure (v := .string ⟨bs.toArray⟩) ?_ hf ?_
                · have : (convert s t (a.eval x)).run c.P w = (Conv.bytesToString (a.eval x)).run c.P w := by
                    rcases hv with hv | ⟨ad, cap, hv⟩ <;> rw [hv] <;> exact run_convert_bytes_string w s t e _ _ _ hus' hue hut
                  simp [execOp, ho, this, hrun]
                · have := Rep.str (bx := g.bx) (s := g.s) (w := w) ⟨bs.toArray⟩
                  exact .clean _ _ (by simpa using this)
              · cases hd
            · cases hd
          · cases hd
        · cases hd
      · cases hd
    · rename_i e l htd hx
      split at hd
      · rename_i ei hei
        split at hd
        · rename_i hed hsd
          rw [hx] at hr
          obtain ⟨b, hv, hb⟩ := hr.str_inv
          have hus' : c.P.underlying s = some .string := desc_of hT hs hsd
          have hut : c.P.underlying t = some (.slice e) := desc_of hT ht htd
          have hue : c.P.underlying e = some (.int .u8) := desc_of hT hei hed
          have hrun := run_bytes_of_string (P := c.P) w s t e b hus' hut hue
          have hlen : l.length = b.size := by rw [← hb]; simp
          have hrow : ∀ (j : Nat) (d : D), (l.map byteD)[j]? = some d → ∃ u : Value, (bytesRow b (grownCap w b.size 0 e))[j]? = some u ∧ ∀ bx s w, Rep bx s w d u := fun j d hj => by
            simp only [List.getElem?_map, Option.map_eq_some_iff] at hj
            obtain ⟨y, hy, rfl⟩ := hj
            rw [← hb] at hy
            have hlt := lt_of_get hy
            rw [Array.length_toList] at hlt
            rw [Array.getElem?_toList, Array.getElem?_eq_getElem hlt] at hy
            injection hy with hy
            exact ⟨_, bytesRow_at b _ j hlt, fun bx s w => by rw [hy]; exact .int _ _⟩
          have hge := grownCap_ge w b.size 0 e
          generalize grownCap w b.size 0 e = cap at hrun hrow hge
          generalize hrw : bytesRow b cap = row at hrun hrow
          have hexec : (execOp a.eval o).run c.P w = .ok (.value (.slice (some ⟨w.heap.size, 0, none⟩) b.size cap)) (w.drew.alloc (.cells row e (row.size, row.size + 1))) := by
            simp [execOp, ho, hv, hrun]
          obtain ⟨f1, f2⟩ := hf.drew
          have hsize : w.drew.heap.size = w.heap.size := rfl
          cases own with
          | true =>
            simp only [cond_true] at hd
            injection hd with hd; injection hd with h1 h2; subst h1; subst h2
            obtain ⟨a1, a2⟩ := f1.alloc_stable row e l.length (row.size, row.size + 1)
            refine .value hexec a1 (f2.trans a2) ?_
            have hnew := heap_alloc_new w.drew (.cells row e (row.size, row.size + 1))
            have hcl : cellsL (l.map byteD) = l.map byteD := cellsL_leaf (fun x hx => by obtain ⟨b, _, rfl⟩ := List.mem_map.1 hx; rfl)
            have hok : OkL 1 (l.map byteD) := fun x hx => by obtain ⟨b, _, rfl⟩ := List.mem_map.1 hx; exact ⟨rfl, rfl⟩
            have hsz : l.length ≤ row.size := by
              rw [← hrw]; simp [bytesRow]; omega
            have := vec_new (bx := g.bx) (s := (g.withS w.drew.heap.size l.length).s) (sz := 1) (xs := l.map byteD) (cap := cap) (p := .none) (.inl rfl) (by simp; omega) hok hnew (by simp [Gh.withS]) (by rw [hcl]; simpa using hsz) (fun j d hj => by
              rw [hcl] at hj
              obtain ⟨u, hu, hr⟩ := hrow j d hj
              simp [Array.getD_eq_getD_getElem?, hu]; exact hr _ _ _)
            rw [List.length_map] at this
            rw [← hlen]
            exact .clean _ _ this
          | false =>
            simp only [cond_false] at hd
            injection hd with hd; injection hd with h1 h2; subst h1; subst h2
            obtain ⟨a1, a2⟩ := f1.alloc_box row e (row.size, row.size + 1) (l.map byteD) ⟨Nat.le_succ _, fun o ho => by simp; omega⟩ (fun j d hj => by
              obtain ⟨u, hu, hr⟩ := hrow j d hj
              exact ⟨u, hu, .clean _ _ (hr _ _ _)⟩)
            refine .value hexec a1 (f2.trans a2) ?_
            have : (g.newL st.L.length w.drew.heap.size).loc st.L.length = w.heap.size := by simp [Gh.newL]
            have h3 := RepF.lsl (c := c) (g := g.newL st.L.length w.drew.heap.size) (nL := dom (st.L ++ [some (l.map byteD)])) (nT := st.τ.length) (w := w.drew.alloc (.cells row e (row.size, row.size + 1))) st.L.length 0 l.length 1 cap (dom_new _ _) (by omega)
            rw [this, hlen] at h3
            rw [hlen]; exact h3
        · cases hd
      · cases hd
    · rename_i e i off len sz htd hx
      split at hd
      · rename_i ei hei
        split at hd
        · rename_i hed
          cases hst : Nat.beq s t with
          | false => rw [hst] at hd; cases hd
          | true =>
            rw [hst] at hd
            simp only [cond_true] at hd
            injection hd with hd; injection hd with h1 h2; subst h1; subst h2
            obtain rfl := beq_of hst
            rw [hx] at hr
            obtain ⟨cap, hv, hi, hcap⟩ := hr.lsl_inv
            have hut : c.P.underlying s = some (.slice e) := desc_of hT ht htd
            have hue : c.P.underlying e = some (.int .u8) := desc_of hT hei hed
            obtain ⟨ds, hds⟩ := hi
            obtain ⟨h0, cs, te, fr, hh, hnf, hcs⟩ := hf.boxL i ds hds
            have hsh : w.shape? (g.loc i) = some (te, cs.size) := by
              unfold World.shape?; rw [hh]
            have hrun : (convert s s (a.eval x)).run c.P w = .ok (a.eval x) (w.freeze ⟨g.loc i, cs.size, none⟩ 1) := by
              rw [hv]
              simp [convert, run_underlying hut, run_underlying hue, markStringish, hsh]
            have hnew : (w.freeze ⟨g.loc i, cs.size, none⟩ 1).heap[g.loc i]? = some (.cells cs te (if fr.1 == fr.2 then (cs.size, cs.size + 1) else (min fr.1 cs.size, max fr.2 (cs.size + 1)))) := by
              simp [World.freeze, Array.getElem?_modify, hh]
            have hoth : ∀ q, q ≠ g.loc i → (w.freeze ⟨g.loc i, cs.size, none⟩ 1).heap[q]? = w.heap[q]? := fun q hq => by
              simp [World.freeze, Array.getElem?_modify, Ne.symm hq]
            obtain ⟨a1, a2⟩ := hf.set_box hds (w.freeze ⟨g.loc i, cs.size, none⟩ 1) hoth (by simp [World.freeze]) rfl rfl rfl ds ⟨cs, te, _, hnew, by
              obtain ⟨n1, n2⟩ := hnf
              split
              · exact ⟨Nat.le_succ _, fun o ho' => by simp; omega⟩
              · rename_i hne
                have hne : fr.1 ≠ fr.2 := by simpa using hne
                have h4 : ¬ fr.1 < cs.size := fun h4 => by
                  have h5 := n2 fr.1 h4
                  simp at h5; omega
                refine ⟨by simp only []; omega, fun o ho' => ?_⟩
                simp only [Bool.and_eq_false_iff, decide_eq_false_iff_not]
                left; omega, fun j d hj => hcs j d hj⟩
            have hL : st.L.set i (some ds) = st.L := by
              apply List.ext_getElem?
              intro q
              by_cases hq : i = q
              · subst hq; rw [List.getElem?_set_self (lt_of_get hds), hds]
              · rw [List.getElem?_set_ne hq]
            rw [hL] at a1 a2
            refine .value (v := a.eval x) (by simp [execOp, ho, hrun]) a1 a2 ?_
            rw [hv]
            exact .lsl i off len sz cap ⟨ds, hds⟩ hcap
        · cases hd
      · cases hd
    · cases hd
  · cases hd

end Go.Proofs.YtbbbhalmlboapaaDoor.V

/-
append.
-/
namespace Go.Proofs.YtbbbhalmlboapaaDoor.V
set_option linter.unusedSimpArgs false
set_option linter.unusedVariables false
open Go Go.RowKit

variable {c : Cx} {g : Gh} {nL : Nat → Prop} {nT : Nat} {w : World}

theorem RowAt.src {P : Program} {sz : Nat} {xs : List D} {v : Value} {us : List Value} (h : RowAt c g w P sz xs v us) {tx : TypeId} (hk : (∃ e', P.underlying tx = some (.slice e')) ∨ P.underlying tx = some .string) :
    Src P sz tx v xs.length us w :=
  ⟨hk, h.len, h.cells w rfl, h.cells w.drew rfl, h.size, h.one⟩

theorem run_append_room' {P : Program} (w w' : World) (t tx ty e : TypeId) (i : TypeInfo) (ht : P.underlying t = some (.slice e)) (hi : P.info? e = some i) (base : Option Addr) (sLen sCap : Nat) (x : Value) (n : Nat) (news : List Value) (hs : Src P i.size tx x n news w)
    (hroom : sLen + n ≤ sCap) (hst : match base with | some a => (storeCells (a.add (sLen * i.size)) news).run P w = .ok () w' | none => w' = w) :
    (Builtin.append_ #[t, tx] ty #[.slice base sLen sCap, x]).run P w = .ok (.slice base (sLen + n) sCap) w' := by
  cases base with
  | none => subst hst; rcases hs.kind with ⟨e', hk⟩ | hk <;> simp [Builtin.append_, run_underlying ht, run_underlying hk, sizeOf, typeInfo, hi, hs.len, hroom, hs.cells]
  | some a => rcases hs.kind with ⟨e', hk⟩ | hk <;> simp [Builtin.append_, run_underlying ht, run_underlying hk, sizeOf, typeInfo, hi, hs.len, hroom, hs.cells, hst]

/-- A new row behind an append: the elements, then noughts. -/
theorem grown_row {L : List (Option (List D))} {τ : List Bool} {B : List (List D)} (hf : FS c g L τ B w) {sz len cap : Nat} {xs : List D} (hok : OkL sz xs) (hlen : xs.length = len) (hcap : len ≤ cap) {us : List Value} (hus : us.length = len * sz)
    (hrep : ∀ (j : Nat) (d : D), (cellsL xs)[j]? = some d → ∃ u, us[j]? = some u ∧ Rep g.bx g.s w d u) {zs : Array Value} (hzs : zs.size = (cap - len) * sz) (e : TypeId) :
    ∃ g', FS c g' L (τ ++ [true]) B (w.drew.alloc (.cells (us.toArray ++ zs) e)) ∧ Gle c g (dom L) τ.length w g' (dom L) (τ ++ [true]).length (w.drew.alloc (.cells (us.toArray ++ zs) e)) ∧
      RepF c g' (dom L) (τ ++ [true]).length (w.drew.alloc (.cells (us.toArray ++ zs) e)) (.vec sz xs (.own τ.length)) (.slice (some ⟨w.heap.size, 0, none⟩) len cap) := by
  obtain ⟨f1, f2⟩ := hf.drew
  obtain ⟨a1, a2⟩ := f1.alloc_tok (us.toArray ++ zs) e (len * sz)
  refine ⟨_, a1, f2.trans a2, ?_⟩
  have hnew := heap_alloc_new w.drew (.cells (us.toArray ++ zs) e)
  have hcl := cellsL_length hok.len
  have hsize : (us.toArray ++ zs).size = cap * sz := by
    simp only [Array.size_append, List.size_toArray, hus, hzs]
    rw [← Nat.add_mul]; congr 1; omega
  have hdh : w.drew.heap.size = w.heap.size := rfl
  have hv := vec_new (bx := g.bx) (s := ((g.withS w.drew.heap.size (len * sz)).newT τ.length w.drew.heap.size (len * sz) (us.toArray ++ zs).size).s) (sz := sz) (xs := xs) (cap := cap) (p := .none) (.inl rfl) (by omega) hok hnew
    (by simp [Gh.withS, Gh.newT, hlen]) (by rw [hsize, hcl, hlen]; exact Nat.mul_le_mul_right _ hcap) (fun j d hj => by
      obtain ⟨u, hu, hr⟩ := hrep j d hj
      have hlt := lt_of_get hu
      have : (us.toArray ++ zs).getD j Go.undef = u := by
        rw [Array.getD_eq_getD_getElem?, Array.getElem?_append_left (by simpa using hlt)]
        simp [hu]
      rw [this]
      exact hr.mono (f2.trans a2).ev)
  have htk : ((g.withS w.drew.heap.size (len * sz)).newT τ.length w.drew.heap.size (len * sz) (us.toArray ++ zs).size).tk τ.length = w.heap.size := by simp [Gh.newT, hdh]
  have := RepF.own (c := c) (g := (g.withS w.drew.heap.size (len * sz)).newT τ.length w.drew.heap.size (len * sz) (us.toArray ++ zs).size) (nL := dom L) (nT := (τ ++ [true]).length) (w := w.drew.alloc (.cells (us.toArray ++ zs) e)) τ.length sz xs cap (by simp)
    (by rw [htk]; exact hv) (by simp [Gh.newT]) (by simp [Gh.newT, hlen]) (by simp only [Gh.newT, if_true]; rw [hsize])
  rw [htk, hlen] at this
  exact this

theorem roomy_le {n b : Nat} (h : roomy n b = true) : n * b ≤ 140737488355328 := Nat.le_of_ble_eq_true h

theorem fits {need old bytes : Nat} (h : old < need) (hb : bytes ≠ 0) (hr : need * bytes ≤ 140737488355328) :
    ((need : Nat) : Int) ≤ 9223372036854775807 ∧ Builtin.nextslicecap need old * bytes ≤ 281474976710656 := by
  have h1 : need ≤ need * bytes := Nat.le_mul_of_pos_right _ (Nat.pos_of_ne_zero hb)
  have h2 := Room.nextslicecap_le' h
  have h3 : Builtin.nextslicecap need old * bytes ≤ 2 * need * bytes := Nat.mul_le_mul_right _ h2
  rw [Nat.mul_assoc] at h3
  exact ⟨by omega, by omega⟩

theorem argTypes_two {ts : Array TypeId} {t u : TypeId} (h : ts.toList = [t, u]) : ts = #[t, u] := by
  apply Array.ext'; simp [h]

theorem map_two {α β : Type} {f : α → β} {l : List α} {x y : β} (h : l.map f = [x, y]) : ∃ a b, l = [a, b] ∧ f a = x ∧ f b = y := by
  match l, h with
  | [a, b], h => simp at h; exact ⟨a, b, rfl, h.1, h.2⟩

theorem okL_append {sz : Nat} {xs ys : List D} (h1 : OkL sz xs) (h2 : OkL sz ys) : OkL sz (xs ++ ys) := fun x hx => (List.mem_append.1 hx).elim (h1 x) (h2 x)

theorem rep_append {R : D → Value → Prop} {xs ys : List D} {us vs : List Value} (hl : (cellsL xs).length = us.length) (h1 : ∀ (j : Nat) (d : D), (cellsL xs)[j]? = some d → ∃ u, us[j]? = some u ∧ R d u)
    (h2 : ∀ (j : Nat) (d : D), (cellsL ys)[j]? = some d → ∃ u, vs[j]? = some u ∧ R d u) : ∀ (j : Nat) (d : D), (cellsL (xs ++ ys))[j]? = some d → ∃ u, (us ++ vs)[j]? = some u ∧ R d u := fun j d hj => by
  rw [cellsL_append] at hj
  rcases Nat.lt_or_ge j us.length with h | h
  · rw [List.getElem?_append_left (by omega)] at hj ⊢; exact h1 j d hj
  · rw [List.getElem?_append_right (by omega)] at hj ⊢; rw [hl] at hj; exact h2 _ d hj

theorem op_append {T : Tab} (hT : TabOk c.P T) {st st' : St} {a : Act} {o : Oper} {cl : Call} {t u e : TypeId} {s x : D} {ti ui ei : TI} {ys : List D} {d : D} (ho : o.op = .call cl) (hb : cl.callee = .builtin .append)
    (hf : FS c g st.L st.τ st.B w) (he : EnvR c g (dom st.L) st.τ.length w st.ρ a) (hts : cl.argTypes.toList = [t, u]) {ts' : List TypeId} (hxs : argsV T st.ρ cl.args.toList ts' = [s, x]) (ht : T t = some ti) (htd : ti.d = .slice e)
    (hu : T u = some ui) (hui : ui.d.rowish = true) (hei : T e = some ei) (hys : st.elems ei.sz x = some ys) (h0 : ei.sz ≠ 0) (hb0 : ei.bytes ≠ 0) (hd : appendV ei.sz ei.bytes st s ys = some (d, st')) :
    OpOk c g st w a o d st' := by
  obtain ⟨consts, hex⟩ := builtin_exec (a := a) ho hb
  obtain ⟨as, ax, hargs, hrs, hrx⟩ := argsV_two he hxs
  have hund : c.P.underlying t = some (.slice e) := desc_of hT ht htd
  have hk : (∃ e', c.P.underlying u = some (.slice e')) ∨ c.P.underlying u = some .string := by
    have hdu := hT.desc u ui hu
    cases h : ui.d <;> rw [h] at hui hdu <;> simp [TD.rowish] at hui
    · exact .inr hdu
    · exact .inl ⟨_, hdu⟩
  obtain ⟨ie, z, hie, hsize, hbytes, hz, hrz⟩ := hT.info e ei hei
  have hzs : z.cells.size = ei.sz := by rw [← hT.zlen e ei hei]; exact (hrz g.bx g.s w).cells_len.symm
  obtain ⟨us, hrow⟩ := elems_spec (P := c.P) hf hrx hys
  have hsrc : Src c.P ie.size u (a.eval ax) ys.length us w := by rw [hsize]; exact hrow.src hk
  have hexec : ∀ v w', (Builtin.append_ #[t, u] o.type #[a.eval as, a.eval ax]).run c.P w = .ok v w' → (execOp a.eval o).run c.P w = .ok (.value v) w' := fun v w' h => by
    rw [hex, args_two hargs, argTypes_two hts]
    simp [Go.builtin, h]
  have hzc : ∀ n, (Builtin.zeroCells z.cells n).size = n * ei.sz := fun n => by simp [Builtin.zeroCells, hzs]
  unfold appendV at hd
  split at hd
  · rename_i sz' xs p
    cases hsz : (Nat.beq sz' ei.sz && roomy (xs.length + ys.length) ei.bytes) with
    | false => rw [hsz] at hd; cases hd
    | true =>
      rw [hsz] at hd
      simp only [cond_true] at hd
      simp only [Bool.and_eq_true] at hsz
      obtain ⟨hsz, hroom⟩ := hsz
      have hsz := beq_of hsz
      subst hsz
      have hroom := roomy_le hroom
      have holds : ∀ (ad : Addr) (cap : Nat), a.eval as = .slice (some ad) xs.length cap → ∃ os : List Value, os.length = xs.length * ei.sz ∧ (∀ w' : World, w'.heap = w.heap → (Builtin.firstCells ei.sz xs.length (.slice (some ad) xs.length cap)).run c.P w' = .ok os.toArray w') ∧
          OkL ei.sz xs ∧ (∀ (j : Nat) (d : D), (cellsL xs)[j]? = some d → ∃ u, os[j]? = some u ∧ Rep g.bx g.s w d u) := fun ad cap hv => by
        have hel : st.elems ei.sz (.vec ei.sz xs p) = some xs := by simp [St.elems]
        obtain ⟨os, ho⟩ := elems_spec (P := c.P) hf hrs hel
        rw [hv] at ho
        exact ⟨os, ho.size, ho.cells, ho.ok, ho.rep⟩
      have hclen : OkL ei.sz xs → ∀ os : List Value, os.length = xs.length * ei.sz → (cellsL xs).length = os.length := fun hok os h => by rw [cellsL_length hok.len, h]
      -- what is tight
      have tight : ∀ (τ : List Bool), FS c g st.L τ st.B w → Rep g.bx g.s w (.vec ei.sz xs .exact) (a.eval as) →
          ∃ v w' g', (execOp a.eval o).run c.P w = .ok (.value v) w' ∧ FS c g' st.L (τ ++ [true]) st.B w' ∧ Gle c g (dom st.L) τ.length w g' (dom st.L) (τ ++ [true]).length w' ∧ RepF c g' (dom st.L) (τ ++ [true]).length w' (.vec ei.sz (xs ++ ys) (bif ys.isEmpty && !xs.isEmpty then .exact else .own τ.length)) v := fun τ hfτ hexact => by
        cases ys with
        | nil =>
          have hus : us = [] := by have := hrow.size; simpa using this
          subst hus
          obtain ⟨q1, q2⟩ := hfτ.name
          have hrep : RepF c (g.newT τ.length 0 0 0 false) (dom st.L) (τ ++ [true]).length w (.vec ei.sz (xs ++ []) (bif ([] : List D).isEmpty && !xs.isEmpty then .exact else .own τ.length)) (a.eval as) := by
            rw [List.append_nil]
            cases xs with
            | nil => exact .tight _ _ _ (by simp) hexact
            | cons _ _ => exact .clean _ _ hexact
          rcases hexact.vec_shape with ⟨hv, _⟩ | ⟨ad, cap, hv, hcap, _⟩
          · have hr := run_append_room' (P := c.P) w w t u o.type e ie hund hie none 0 0 (a.eval ax) 0 [] hsrc (Nat.le_refl _) rfl
            rw [← hv] at hr
            exact ⟨_, _, _, hexec _ _ hr, q1, q2, hrep⟩
          · have hr := run_append_room' (P := c.P) w w t u o.type e ie hund hie (some ad) xs.length cap (a.eval ax) 0 [] hsrc hcap rfl
            rw [← hv] at hr
            have e1 : Value.slice (some ad) (xs.length + 0) cap = a.eval as := by rw [hv]; rfl
            rw [e1] at hr
            exact ⟨_, _, _, hexec _ _ hr, q1, q2, hrep⟩
        | cons y r =>
          rcases hexact.vec_shape with ⟨hv, rfl⟩ | ⟨ad, cap, hv, hcap, hce⟩
          · obtain ⟨f1, f2⟩ := fits (need := (y :: r).length) (old := 0) (by simp) hb0 (by simpa using hroom)
            have hr := run_append_grow_src (P := c.P) w t u o.type e ie z hund hie hz none 0 0 [] rfl (a.eval ax) _ us hsrc (by simp) (by simpa using f1) (by rw [hbytes]; simpa using f2)
            rw [← hv] at hr
            have hge := grownCap_ge w (0 + (y :: r).length) 0 e
            generalize grownCap w (0 + (y :: r).length) 0 e = cap at hr hge
            obtain ⟨g', q1, q2, q3⟩ := grown_row hfτ hrow.ok (len := 0 + (y :: r).length) (cap := cap) (us := [] ++ us) (by simp) hge (by simpa using hrow.size) (by simpa using hrow.rep) (hzc (cap - (0 + (y :: r).length))) e
            exact ⟨_, _, g', hexec _ _ hr, q1, q2, q3⟩
          · obtain rfl := hce rfl
            obtain ⟨os, o1, o2, o3, o4⟩ := holds ad _ hv
            obtain ⟨f1, f2⟩ := fits (need := xs.length + (y :: r).length) (old := xs.length) (by simp) hb0 hroom
            have hr := run_append_grow_src (P := c.P) w t u o.type e ie z hund hie hz (some ad) xs.length xs.length os (by rw [hsize]; exact o2 w.drew rfl) (a.eval ax) _ us hsrc (by simp) f1 (by rw [hbytes]; exact f2)
            rw [← hv] at hr
            have hge := grownCap_ge w (xs.length + (y :: r).length) xs.length e
            generalize grownCap w (xs.length + (y :: r).length) xs.length e = cap at hr hge
            obtain ⟨g', q1, q2, q3⟩ := grown_row hfτ (okL_append o3 hrow.ok) (len := xs.length + (y :: r).length) (cap := cap) (us := os ++ us) (by simp) hge (by rw [List.length_append, o1, hrow.size, Nat.add_mul]) (rep_append (hclen o3 os o1) o4 hrow.rep) (hzc (cap - (xs.length + (y :: r).length))) e
            exact ⟨_, _, g', hexec _ _ hr, q1, q2, q3⟩
      split at hd
      · injection hd with hd; injection hd with h1 h2; subst h1; subst h2
        obtain ⟨v, w', g', r1, r2, r3, r4⟩ := tight st.τ hf hrs.exact_inv
        exact .value r1 r2 r3 r4
      · rename_i i
        split at hd
        · rename_i hti
          injection hd with hd; injection hd with h1 h2; subst h1; subst h2
          have hlen2 : (st.τ.set i false).length = st.τ.length := by simp
          obtain ⟨k1, k2⟩ := hf.shut i
          obtain ⟨hi, hclean, ⟨rfl, hexact⟩ | ⟨how, cap, hv, hen, hbs⟩⟩ := hrs.own_inv
          · obtain ⟨v, w', g', r1, r2, r3, r4⟩ := tight _ k1 hexact
            rw [hlen2] at r3 r4 k2
            have e0 : (ys.isEmpty && !([] : List D).isEmpty) = false := by cases ys <;> rfl
            rw [e0] at r4
            exact .value r1 r2 (k2.trans r3) r4
          · obtain ⟨os, o1, o2, o3, o4⟩ := holds _ _ hv
            by_cases hfit : xs.length + ys.length ≤ cap
            · -- there is room
              obtain ⟨ts, cs, tt, hh, hcs⟩ := hf.tok i hti how
              have hmul : (xs.length + ys.length) * ei.sz ≤ cap * ei.sz := Nat.mul_le_mul_right _ hfit
              rw [Nat.add_mul] at hmul
              obtain ⟨w', cs', s1, s2, s3, s4, s5, s6, s7, s8, s9⟩ := run_storeCells_gen c.P (g.tk i) tt (0, 0) cs.size (nofr_zero _) us (0 + xs.length * ei.sz) 0 cs w hh rfl (by rw [hrow.size, hcs, ← hbs]; omega) hrow.one
              have hr := run_append_room' (P := c.P) w w' t u o.type e ie hund hie (some ⟨g.tk i, 0, none⟩) xs.length cap (a.eval ax) ys.length us hsrc hfit (by rw [hsize]; simp only [add_plain]; exact s1)
              rw [← hv] at hr
              obtain ⟨q1, q2⟩ := hf.grow hti how w' s5 s6 s7 s8 s9 ((xs.length + ys.length) * ei.sz) (by rw [← hen]; exact Nat.mul_le_mul_right _ (by omega)) ⟨cs, cs', tt, tt, hh, s2, by rw [s3, hcs], fun o v ho hv => by
                rw [s4 o, if_neg (by omega)]; exact hv⟩
              refine .value (hexec _ _ hr) q1 q2 ?_
              have hok := okL_append o3 hrow.ok
              have hcl := cellsL_length hok.len
              have hcx := cellsL_length o3.len
              have hold : ∀ (j : Nat) (d : D), (cellsL xs)[j]? = some d → ∃ v, cs[j]? = some v ∧ Rep g.bx g.s w d v := fun j d hj => by
                rw [hv] at hclean
                cases hclean with
                | vec _ _ _ _ _ vs _ _ _ hc hr _ =>
                  have h := hc j d hj
                  rw [add_plain] at h
                  simp [World.cell?, hh] at h
                  exact ⟨vs j, h, hr j d hj⟩
              have hv2 := vec_new (bx := g.bx) (s := ((g.withS (g.tk i) ((xs.length + ys.length) * ei.sz)).newT st.τ.length (g.tk i) ((xs.length + ys.length) * ei.sz) (g.bs i)).s) (sz := ei.sz) (xs := xs ++ ys) (cap := cap) (p := .none) (.inl rfl) (by simpa using hfit) hok s2
                (by simp [Gh.withS, Gh.newT]) (by rw [hcl, s3, hcs, ← hbs]; exact Nat.mul_le_mul_right _ (by simpa using hfit)) (fun j d hj => by
                  have : ∃ v, cs'[j]? = some v ∧ Rep g.bx g.s w d v := by
                    rw [cellsL_append] at hj
                    rcases Nat.lt_or_ge j (cellsL xs).length with h | h
                    · rw [List.getElem?_append_left h] at hj
                      obtain ⟨v, hv, hr⟩ := hold j d hj
                      exact ⟨v, by rw [s4 j, if_neg (by omega)]; exact hv, hr⟩
                    · rw [List.getElem?_append_right h] at hj
                      obtain ⟨v, hv, hr⟩ := hrow.rep _ d hj
                      have hlt := lt_of_get hv
                      refine ⟨v, ?_, hr⟩
                      rw [s4 j, if_pos (by omega), show j - (0 + xs.length * ei.sz + 0) = j - (cellsL xs).length by omega]
                      exact hv
                  obtain ⟨v, hv, hr⟩ := this
                  simp only [Array.getD_eq_getD_getElem?, hv, Option.getD_some]
                  exact hr.mono q2.ev)
              have htk : ((g.withS (g.tk i) ((xs.length + ys.length) * ei.sz)).newT st.τ.length (g.tk i) ((xs.length + ys.length) * ei.sz) (g.bs i)).tk st.τ.length = g.tk i := by simp [Gh.newT]
              have := RepF.own (c := c) (g := (g.withS (g.tk i) ((xs.length + ys.length) * ei.sz)).newT st.τ.length (g.tk i) ((xs.length + ys.length) * ei.sz) (g.bs i)) (nL := dom st.L) (nT := (st.τ.set i false ++ [true]).length) (w := w') st.τ.length ei.sz (xs ++ ys) cap (by simp)
                (by rw [htk]; exact hv2) (by simp [Gh.newT]) (by simp [Gh.newT]) (by simp [Gh.newT, hbs])
              rw [htk, show (xs ++ ys).length = xs.length + ys.length from List.length_append] at this
              exact this
            · -- there is none
              obtain ⟨f1, f2⟩ := fits (need := xs.length + ys.length) (old := cap) (by omega) hb0 hroom
              have hfc : (Builtin.firstCells ie.size xs.length (.slice (some ⟨g.tk i, 0, none⟩) xs.length cap)).run c.P w.drew = .ok os.toArray w.drew := by rw [hsize]; exact o2 w.drew rfl
              have hr := run_append_grow_src (P := c.P) w t u o.type e ie z hund hie hz (some ⟨g.tk i, 0, none⟩) xs.length cap os hfc (a.eval ax) _ us hsrc (by omega) f1 (by rw [hbytes]; exact f2)
              rw [← hv] at hr
              have hge := grownCap_ge w (xs.length + ys.length) cap e
              generalize grownCap w (xs.length + ys.length) cap e = ncap at hr hge
              obtain ⟨g', q1, q2, q3⟩ := grown_row k1 (okL_append o3 hrow.ok) (len := xs.length + ys.length) (cap := ncap) (us := os ++ us) (by simp) hge (by rw [List.length_append, o1, hrow.size, Nat.add_mul]) (rep_append (hclen o3 os o1) o4 hrow.rep) (hzc (ncap - (xs.length + ys.length))) e
              rw [hlen2] at q2 q3 k2
              exact .value (hexec _ _ hr) q1 (k2.trans q2) q3
        · cases hd
      · cases hd
  · cases hd

end Go.Proofs.YtbbbhalmlboapaaDoor.V

/-
copy; all builtins together.
-/
namespace Go.Proofs.YtbbbhalmlboapaaDoor.V
set_option linter.unusedSimpArgs false
set_option linter.unusedVariables false
open Go Go.RowKit

variable {c : Cx} {g : Gh} {nL : Nat → Prop} {nT : Nat} {w : World}

theorem op_copy {T : Tab} (hT : TabOk c.P T) {st : St} {a : Act} {o : Oper} {cl : Call} {t : TypeId} {r : List TypeId} {i off len : Nat} {x : D} {ds ys : List D} (ho : o.op = .call cl) (hb : cl.callee = .builtin .copy)
    (hf : FS c g st.L st.τ st.B w) (he : EnvR c g (dom st.L) st.τ.length w st.ρ a) (hts : cl.argTypes.toList = t :: r) {ts' : List TypeId} (hxs : argsV T st.ρ cl.args.toList ts' = [.lsl i off len 1, x]) (ht : rowOf T t = some (.none, 1))
    (hL : st.L[i]? = some (some ds)) (hys : st.elems 1 x = some ys) (hfit : off + len ≤ ds.length ∧ ys.length ≤ len) (hleaf : ys.all D.leaf = true) :
    OpOk c g st w a o (.int .i64 ys.length) { st with L := st.L.set i (some (setC ds off ys)) } := by
  obtain ⟨consts, hex⟩ := builtin_exec (a := a) ho hb
  obtain ⟨as, ax, hargs, hrs, hrx⟩ := argsV_two he hxs
  obtain ⟨cap, hv, hi, hcap⟩ := hrs.lsl_inv
  obtain ⟨us, hrow⟩ := elems_spec (P := c.P) hf hrx hys
  have hlf : ∀ y, y ∈ ys → y.leaf = true := List.all_eq_true.1 hleaf
  have hcl := cellsL_leaf hlf
  have hus : us.length = ys.length := by have := hrow.size; omega
  obtain ⟨h0, cs, tt, fr, hh, hfr, hc⟩ := hf.boxL i ds hL
  have hsz : ds.length ≤ cs.size := by
    rcases Nat.eq_zero_or_pos ds.length with h | h
    · omega
    · obtain ⟨v, hv, _⟩ := hc (ds.length - 1) _ (List.getElem?_eq_getElem (by omega))
      have := (Array.getElem?_eq_some_iff.1 hv).1; omega
  obtain ⟨w', cs', s1, s2, s3, s4, s5, s6, s7, s8, s9⟩ := run_storeCells_gen c.P (g.loc i) tt fr cs.size hfr us off 0 cs w hh rfl (by omega) hrow.one
  obtain ⟨q1, q2⟩ := hf.set_box hL w' s5 s6 s7 s8 s9 (setC ds off ys) ⟨cs', tt, fr, s2, by rw [s3]; exact hfr, fun j d hj => by
    rw [setC_get ds off ys (by omega) j] at hj
    rw [s4 j]
    by_cases hin : off ≤ j ∧ j < off + ys.length
    · rw [if_pos hin] at hj
      rw [if_pos (by omega)]
      rw [← hcl] at hj
      obtain ⟨u, hu, hr⟩ := hrow.rep _ d hj
      exact ⟨u, by simpa using hu, .clean _ _ hr⟩
    · rw [if_neg hin] at hj
      rw [if_neg (by omega)]
      exact hc j d hj⟩
  refine .value (v := .int .i64 ys.length) (w' := w') ?_ q1 q2 (.clean _ _ (.int _ _))
  obtain ⟨e, hund, hrest⟩ : ∃ e, c.P.underlying t = some (.slice e) ∧ ∃ ie, c.P.info? e = some ie ∧ ie.size = 1 := by
    rcases rowOf_inv hT ht with ⟨n, e, ei, h, _⟩ | ⟨e, ei, _, h1, h2, h3⟩
    · cases h
    · obtain ⟨ie, z, hie, hs, _⟩ := hT.info e ei h2
      exact ⟨e, h1, ie, hie, by rw [hs, h3]⟩
  obtain ⟨ie, hie, hsize⟩ := hrest
  have hmin : Nat.min ys.length len = ys.length := Nat.min_eq_left hfit.2
  rw [hex, args_two hargs, hv]
  have h1 := hrow.len w
  have h2 := hrow.cells w rfl
  simp [Go.builtin, Builtin.copy_, get_head hts, run_underlying hund, sizeOf, typeInfo, hie, hsize, h1, hmin, h2, s1, goInt]

theorem op_builtin {T : Tab} (hT : TabOk c.P T) {st st' : St} {a : Act} {o : Oper} {cl : Call} {b : Builtin} {d : D} (ho : o.op = .call cl) (hb : cl.callee = .builtin b)
    (hf : FS c g st.L st.τ st.B w) (he : EnvR c g (dom st.L) st.τ.length w st.ρ a) {ts' : List TypeId} (hd : builtinV T st b cl.argTypes.toList (argsV T st.ρ cl.args.toList ts') = some (d, st')) : OpOk c g st w a o d st' := by
  unfold builtinV at hd
  split at hd
  · -- len
    rename_i t r x hts hxs
    split at hd
    · rename_i ti ht
      split at hd
      · rename_i n e htd
        injection hd with hd; injection hd with h1 h2; subst h1; subst h2
        exact op_len hT ho hb hf he hts hxs ht (.inl ⟨e, htd⟩)
      · rename_i htd
        split at hd
        · rename_i s
          injection hd with hd; injection hd with h1 h2; subst h1; subst h2
          exact op_len hT ho hb hf he hts hxs ht (.inr (.inl ⟨htd, s, rfl, rfl⟩))
        · cases hd
      · rename_i e htd
        split at hd
        · cases hd
        · rename_i hns
          split at hd
          · rename_i n hn
            injection hd with hd; injection hd with h1 h2; subst h1; subst h2
            exact op_len hT ho hb hf he hts hxs ht (.inr (.inr ⟨⟨e, htd⟩, fun s hs => hns s hs, hn⟩))
          · cases hd
      · cases hd
    · cases hd
  · -- append
    rename_i t u s x hts hxs
    split at hd
    · rename_i ti ui ht hu
      split at hd
      · rename_i e htd hrow
        split at hd
        · rename_i ei hei
          split at hd
          · rename_i ys hys
            cases hz : (Nat.beq ei.sz 0 || Nat.beq ei.bytes 0) with
            | true => rw [hz] at hd; cases hd
            | false =>
              rw [hz] at hd
              simp only [cond_false] at hd
              have hb0 : ei.bytes ≠ 0 := fun h0 => by simp [h0] at hz
              have h0 : ei.sz ≠ 0 := fun h0 => by simp [h0] at hz
              exact op_append hT ho hb hf he hts hxs ht htd hu hrow hei hys h0 hb0 hd
          · cases hd
        · cases hd
      · cases hd
    · cases hd
  · -- max
    rename_i x r hxs
    split at hd
    · rename_i z hz
      injection hd with hd; injection hd with h1 h2; subst h1; subst h2
      exact op_max (big := true) ho hb hf he hxs hz
    · cases hd
  · rename_i x r hxs
    split at hd
    · rename_i z hz
      injection hd with hd; injection hd with h1 h2; subst h1; subst h2
      exact op_max (big := false) ho hb hf he hxs hz
    · cases hd
  · rename_i t r i off len sz x hts hxs
    split at hd
    · rename_i ds ht hL
      cases hz : Nat.beq sz 1 with
      | false => rw [hz] at hd; cases hd
      | true =>
        rw [hz] at hd
        simp only [cond_true] at hd
        have hz := beq_of hz
        subst hz
        split at hd
        · rename_i ys hys
          split at hd
          · rename_i hfit
            cases hl : ys.all D.leaf with
            | false => rw [hl] at hd; cases hd
            | true =>
              rw [hl] at hd
              simp only [cond_true] at hd
              injection hd with hd; injection hd with h1 h2; subst h1; subst h2
              exact op_copy hT ho hb hf he hts hxs ht hL hys hfit hl
          · cases hd
        · cases hd
    · cases hd
  · cases hd

end Go.Proofs.YtbbbhalmlboapaaDoor.V
