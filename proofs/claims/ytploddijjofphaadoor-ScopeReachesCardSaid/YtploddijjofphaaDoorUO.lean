/-
What is read as a row; conversions; append; copy.
-/
import Derived.Test.YtploddijjofphaaDoorUN
import Derived.Deep.AppendSrc
import Derived.Room.Entries
namespace Go.Proofs.YtploddijjofphaaDoor.V
set_option linter.unusedSimpArgs false
set_option linter.unusedVariables false
open Go Go.RowKit

variable {c : Cx} {g : Gh} {nL : Nat → Prop} {nT : Nat} {w : World}

theorem Rep.leafy {bx : List Nat} {s : Nat → Nat} {d : D} {v : Value} (hd : d.leaf = true) (h : Rep bx s w d v) : v.oneCell' = true := by
  cases h <;> first | rfl | (simp [D.leaf] at hd)

/-- What is read as a row. -/
structure RowAt (c : Cx) (g : Gh) (w : World) (P : Program) (sz : Nat) (xs : List D) (v : Value) (us : List Value) : Prop where
  ok : OkL sz xs
  len : ∀ w' : World, (Builtin.lenOf v).run P w' = .ok xs.length w'
  cells : ∀ w' : World, w'.heap = w.heap → (Builtin.firstCells sz xs.length v).run P w' = .ok us.toArray w'
  size : us.length = xs.length * sz
  one : ∀ u ∈ us, u.oneCell' = true
  rep : ∀ (j : Nat) (d : D), (cellsL xs)[j]? = some d → ∃ u, us[j]? = some u ∧ Rep g.bx g.s w d u

theorem cell_heap {w w' : World} (h : w'.heap = w.heap) (a : Addr) : w'.cell? a = w.cell? a := World.cell?_of_block (by rw [h])

theorem elems_spec {P : Program} {st : St} {sz : Nat} {x : D} {v : Value} {xs : List D} (hf : FS c g st.L st.τ st.B w) (hr : RepF c g (dom st.L) st.τ.length w x v) (h : st.elems sz x = some xs) :
    ∃ us, RowAt c g w P sz xs v us := by
  cases x <;> simp only [St.elems] at h <;> try (cases h; done)
  case vec sz' ys p =>
    cases hb : Nat.beq sz' sz with
    | false => simp [hb] at h
    | true =>
      simp only [hb, cond_true, Option.some.injEq] at h
      have hb := beq_of hb
      subst hb; subst h
      have hv := hr.vec_inv
      cases hv with
      | nilv => exact ⟨[], ⟨fun x hx => (by cases hx), fun _ => rfl, fun _ _ => rfl, by simp, fun u hu => (by cases hu), fun j d hj => by simp [cellsL] at hj⟩⟩
      | vec _ _ _ a cap vs hp hcap hok hc hrep hs =>
        have hl := cellsL_length hok.len
        have hcell : ∀ j, j < ys.length * sz' → w.cell? (a.add j) = some (vs j) := fun j hj => hc j _ (List.getElem?_eq_getElem (by omega))
        refine ⟨(List.range (ys.length * sz')).map vs, ⟨hok, fun _ => rfl, fun w' hw => ?_, by simp, fun u hu => ?_, fun j d hj => ?_⟩⟩
        · have := run_loadCells (P := P) w' a (ys.length * sz') vs (fun j hj => by rw [cell_heap hw]; exact hcell j hj)
          simpa [Builtin.firstCells] using this
        · obtain ⟨j, hj, rfl⟩ := List.mem_map.1 hu
          have hj := List.mem_range.1 hj
          have hd := List.getElem?_eq_getElem (l := cellsL ys) (i := j) (by omega)
          exact (hrep j _ hd).leafy (hok.leaf hd)
        · have hlt := lt_of_get hj
          exact ⟨vs j, by simp [show j < ys.length * sz' by omega], hrep j d hj⟩
  case lsl i off len sz' =>
    cases hb : (Nat.beq sz' 1 && Nat.beq sz 1) with
    | false => simp [hb] at h
    | true =>
      simp only [hb, cond_true] at h
      simp only [Bool.and_eq_true] at hb
      have hb1 := beq_of hb.1
      have hb2 := beq_of hb.2
      subst hb1; subst hb2
      split at h
      · rename_i ds hL
        split at h
        · rename_i hfit
          cases hg : ds.all D.global with
          | false => simp [hg] at h
          | true =>
            simp only [hg, cond_true, Option.some.injEq] at h
            subst h
            obtain ⟨cap, rfl, hi, hcap⟩ := hr.lsl_inv
            obtain ⟨_, cs, t, fr, hh, _, hc⟩ := hf.boxL i ds hL
            have hgl : ∀ d, d ∈ ds → d.global = true := List.all_eq_true.1 hg
            have hleaf : ∀ d, d ∈ (ds.drop off).take len → d.leaf = true := fun d hd => global_leaf (hgl d (List.mem_of_mem_drop (List.mem_of_mem_take hd)))
            have hcl := cellsL_leaf hleaf
            have hlen : ((ds.drop off).take len).length = len := by simp; omega
            let vs : Nat → Value := fun j => cs.getD (off + j) Go.undef
            have hat : ∀ j, j < len → ∃ d, ds[off + j]? = some d ∧ cs[off + j]? = some (vs j) ∧ Rep g.bx g.s w d (vs j) ∧ d.leaf = true := fun j hj => by
              have hd := List.getElem?_eq_getElem (l := ds) (i := off + j) (by omega)
              obtain ⟨u, hu, hru⟩ := hc _ _ hd
              have hm := List.mem_of_getElem? hd
              have e : vs j = u := by simp [vs, Array.getD_eq_getD_getElem?, hu]
              exact ⟨_, hd, by rw [e]; exact hu, by rw [e]; exact global_clean (hgl _ hm) hru, global_leaf (hgl _ hm)⟩
            refine ⟨(List.range len).map vs, ⟨fun x hx => ?_, fun _ => by rw [hlen]; rfl, fun w' hw => ?_, by simp [hlen], fun u hu => ?_, fun j d hj => ?_⟩⟩
            · rw [leaf_cells (hleaf x hx)]; exact ⟨rfl, by simp [hleaf x hx]⟩
            · have := run_loadCells (P := P) w' ⟨g.loc i, off, none⟩ len vs (fun j hj => by
                obtain ⟨d, _, h2, _⟩ := hat j hj
                rw [cell_heap hw, add_plain]; simp [World.cell?, hh, h2])
              rw [hlen]
              simpa [Builtin.firstCells] using this
            · obtain ⟨j, hj, rfl⟩ := List.mem_map.1 hu
              obtain ⟨d, _, _, h3, h4⟩ := hat j (List.mem_range.1 hj)
              exact h3.leafy h4
            · rw [hcl] at hj
              have hlt := lt_of_get hj
              rw [hlen] at hlt
              rw [List.getElem?_take_of_lt hlt, List.getElem?_drop] at hj
              obtain ⟨d', h1, _, h3, _⟩ := hat j hlt
              rw [h1] at hj; injection hj with hj; subst hj
              exact ⟨vs j, by simp [hlt], h3⟩
        · cases h
      · cases h
  case str s =>
    cases hb : Nat.beq sz 1 with
    | false => simp [hb] at h
    | true =>
      simp only [hb, cond_true, Option.some.injEq] at h
      have hb := beq_of hb
      subst hb; subst h
      obtain ⟨b, rfl, hbs⟩ := hr.str_inv
      have hlen : s.length = b.size := by rw [← hbs]; simp
      have hcl : cellsL (s.map byteD) = s.map byteD := cellsL_leaf (fun x hx => by obtain ⟨b, _, rfl⟩ := List.mem_map.1 hx; rfl)
      refine ⟨byteCells b, ⟨fun x hx => ?_, fun _ => by simp [Builtin.lenOf, hlen], fun w' _ => ?_, by rw [byteCells_length]; simp [hlen], fun u hu => ?_, fun j d hj => ?_⟩⟩
      · obtain ⟨b, _, rfl⟩ := List.mem_map.1 hx; exact ⟨rfl, rfl⟩
      · rw [List.length_map, hlen]; exact firstCells_string b w'
      · obtain ⟨_, _, rfl⟩ := List.mem_map.1 hu; rfl
      · rw [hcl] at hj
        simp only [List.getElem?_map, Option.map_eq_some_iff] at hj
        obtain ⟨y, hy, rfl⟩ := hj
        refine ⟨.int .u8 y.toNat, ?_, .int _ _⟩
        unfold byteCells
        rw [hbs]; simp [hy]

/-! ### Conversions -/
theorem bytesOf_spec : ∀ {xs : List D} {bs : List UInt8}, bytesOf xs = some bs → xs.length = bs.length ∧ ∀ (j : Nat) (b : UInt8), bs[j]? = some b → ∃ n : Int, xs[j]? = some (.int .u8 n) ∧ b = UInt8.ofNat n.toNat
  | [], bs, h => by simp [bytesOf] at h; subst h; exact ⟨rfl, fun j b hj => by simp at hj⟩
  | x :: xs, bs, h => by
    simp only [bytesOf] at h
    split at h
    · rename_i b hb
      split at h
      · rename_i bs' hbs
        injection h with h; subst h
        obtain ⟨h1, h2⟩ := bytesOf_spec hbs
        refine ⟨by simp [h1], fun j b' hj => ?_⟩
        cases j with
        | zero =>
          simp at hj; subst hj
          cases x <;> simp only [byteOf] at hb <;> try (cases hb; done)
          rename_i k n
          cases k <;> simp at hb
          exact ⟨n, rfl, hb.symm⟩
        | succ j => simp at hj; obtain ⟨n, h3, h4⟩ := h2 j b' hj; exact ⟨n, by simpa using h3, h4⟩
      · cases h
    · cases h

theorem foldl_push (ns : List Int) : ∀ r : ByteArray, ns.foldl (fun r n => r.push (UInt8.ofNat n.toNat)) r = ⟨r.data ++ (ns.map fun n => UInt8.ofNat n.toNat).toArray⟩ := by
  induction ns with
  | nil => intro r; simp
  | cons n ns ih => intro r; simp only [List.foldl_cons]; rw [ih]; simp [ByteArray.push]

/-- The cells of single bytes. -/
theorem byte_cells {P : Program} {xs : List D} {v : Value} {us : List Value} {bs : List UInt8} (h : RowAt c g w P 1 xs v us) (hb : bytesOf xs = some bs) :
    ∃ ns : List Int, us = ns.map (Value.int .u8) ∧ bs = ns.map fun n => UInt8.ofNat n.toNat := by
  obtain ⟨h1, h2⟩ := bytesOf_spec hb
  have hsz := h.size
  rw [Nat.mul_one] at hsz
  have hleaf : ∀ x, x ∈ xs → x.leaf = true := fun x hx => by
    obtain ⟨j, hj⟩ := List.getElem?_of_mem hx
    have hlt := lt_of_get hj
    obtain ⟨n, h3, _⟩ := h2 j _ (List.getElem?_eq_getElem (l := bs) (i := j) (by omega))
    rw [h3] at hj; injection hj with hj; subst hj; rfl
  have hcl := cellsL_leaf hleaf
  refine ⟨us.map fun u => match u with | .int _ n => n | _ => 0, ?_, ?_⟩
  · apply List.ext_getElem?
    intro j
    rcases Nat.lt_or_ge j us.length with hj | hj
    · obtain ⟨n, h3, _⟩ := h2 j _ (List.getElem?_eq_getElem (l := bs) (i := j) (by omega))
      rw [← hcl] at h3
      obtain ⟨u, hu, hr⟩ := h.rep j _ h3
      cases hr
      simp [hu]
    · simp [List.getElem?_eq_none hj]
  · apply List.ext_getElem?
    intro j
    rcases Nat.lt_or_ge j us.length with hj | hj
    · have hbj := List.getElem?_eq_getElem (l := bs) (i := j) (by omega)
      obtain ⟨n, h3, h4⟩ := h2 j _ hbj
      rw [← hcl] at h3
      obtain ⟨u, hu, hr⟩ := h.rep j _ h3
      cases hr
      rw [hbj, h4]
      simp [hu]
    · rw [List.getElem?_eq_none (by omega), List.getElem?_eq_none (by simp; omega)]

theorem run_bytes_back {P : Program} {xs : List D} {v : Value} {us : List Value} {bs : List UInt8} (h : RowAt c g w P 1 xs v us) (hb : bytesOf xs = some bs) (hv : v = .slice none 0 0 ∨ ∃ a cap, v = .slice (some a) xs.length cap) :
    (Conv.bytesToString v).run P w = .ok (.string ⟨bs.toArray⟩) w := by
  obtain ⟨ns, rfl, rfl⟩ := byte_cells h hb
  rcases hv with rfl | ⟨a, cap, rfl⟩
  · have h1 := h.len w
    simp [Builtin.lenOf] at h1
    have h2 := h.size
    rw [← h1] at h2
    simp at h2
    subst h2
    simp [Conv.bytesToString]
    rfl
  · have hc := h.cells w rfl
    have hl : (loadCells a xs.length).run P w = .ok (ns.map (Value.int .u8)).toArray w := by
      simpa [Builtin.firstCells] using hc
    rw [run_bytesToString w a xs.length cap ns hl, foldl_push]
    simp

theorem op_convert {T : Tab} (hT : TabOk c.P T) {st st' : St} {a : Act} {o : Oper} {s t : TypeId} {x : Operand} {own : Bool} {d : D} (ho : o.op = .convert s t x) (hf : FS c g st.L st.τ st.B w)
    (he : EnvR c g (dom st.L) st.τ.length w st.ρ a) (hd : convV T own s t st (evalT T s st.ρ x) = some (d, st')) : OpOk c g st w a o d st' := by
  have hr := he.evalT (T := T) (t := s) x
  unfold convV at hd
  split at hd
  · rename_i si di hs ht
    have hds := hT.desc s si hs
    have hus : ∃ ds, c.P.underlying s = some ds := by
      cases h : si.d <;> rw [h] at hds <;> simp only [DescOk] at hds
      case struct => obtain ⟨f, h, _⟩ := hds; exact ⟨_, h⟩
      case iface => obtain ⟨f, h⟩ := hds; exact ⟨_, h⟩
      case func => obtain ⟨_, _, _, h⟩ := hds; exact ⟨_, h⟩
      case other => obtain ⟨f, h, _⟩ := hds; exact ⟨_, h⟩
      all_goals exact ⟨_, hds⟩
    obtain ⟨ds, hus⟩ := hus
    split at hd
    · rename_i k k' n htd hx
      injection hd with hd; injection hd with h1 h2; subst h1; subst h2
      rw [hx] at hr
      obtain hv := hr.int_inv
      have hut : c.P.underlying t = some (.int k) := desc_of hT ht htd
      refine .pure (v := .int k (k.wrap n)) ?_ hf (.clean _ _ (.int _ _))
      simp [execOp, ho, hv, convert, run_underlying hus, run_underlying hut, Conv.intToInt]
    · rename_i l htd hx
      injection hd with hd; injection hd with h1 h2; subst h1; subst h2
      have hv' := hr
      rw [hx] at hr
      obtain ⟨b, hv, hb⟩ := hr.str_inv
      have hut : c.P.underlying t = some .string := desc_of hT ht htd
      refine .pure (v := .string b) ?_ hf (by rw [← hb]; exact .clean _ _ (.str _))
      simp [execOp, ho, hv, convert, run_underlying hus, run_underlying hut]
    · rename_i htd hnot
      have hut : c.P.underlying t = some .string := desc_of hT ht htd
      split at hd
      · rename_i e hsd
        have hus' : c.P.underlying s = some (.slice e) := desc_of hT hs hsd
        split at hd
        · rename_i ei hei
          split at hd
          · rename_i hed
            have hue : c.P.underlying e = some (.int .u8) := desc_of hT hei hed
            split at hd
            · rename_i xs hxs
              split at hd
              · rename_i bs hbs
                injection hd with hd; injection hd with h1 h2; subst h1; subst h2
                obtain ⟨us, hrow⟩ := elems_spec (P := c.P) hf hr hxs
                have hv : a.eval x = .slice none 0 0 ∨ ∃ ad cap, a.eval x = .slice (some ad) xs.length cap := by
                  have hl := hrow.len w
                  cases hx : evalT T s st.ρ x <;> rw [hx] at hr hxs hnot <;> simp only [St.elems] at hxs <;> try (cases hxs; done)
                  case str l => exact absurd rfl (hnot l)
                  case vec sz ys p =>
                    obtain ⟨hv, _⟩ | ⟨ad, cap, hv, _⟩ := hr.vec_inv.vec_shape
                    · exact .inl hv
                    rw [hv] at hl; simp [Builtin.lenOf] at hl
                    exact .inr ⟨ad, cap, by rw [hv, hl]⟩
                  case lsl i off len sz =>
                    obtain ⟨cap, hv, _⟩ := hr.lsl_inv
                    rw [hv] at hl; simp [Builtin.lenOf] at hl
                    exact .inr ⟨_, cap, by rw [hv, hl]⟩
                have hrun := run_bytes_back hrow hbs hv
                refine .pure (v := .string ⟨bs.toArray⟩) ?_ hf ?_
                · have : (convert s t (a.eval x)).run c.P w = (Conv.bytesToString (a.eval x)).run c.P w := by
                    rcases hv with hv | ⟨ad, cap, hv⟩ <;> rw [hv] <;> exact run_convert_bytes_string w s t e _ _ _ hus' hue hut
                  simp [execOp, ho, this, hrun]
                · have := Rep.str (bx := g.bx) (s := g.s) (w := w) ⟨bs.toArray⟩
                  exact .clean _ _ (by simpa using this)
              · cases hd
            · cases hd
          · cases hd
        · cases hd
      · cases hd
    · rename_i e l htd hx
      split at hd
      · rename_i ei hei
        split at hd
        · rename_i hed hsd
          rw [hx] at hr
          obtain ⟨b, hv, hb⟩ := hr.str_inv
          have hus' : c.P.underlying s = some .string := desc_of hT hs hsd
          have hut : c.P.underlying t = some (.slice e) := desc_of hT ht htd
          have hue : c.P.underlying e = some (.int .u8) := desc_of hT hei hed
          have hrun := run_bytes_of_string (P := c.P) w s t e b hus' hut hue
          have hlen : l.length = b.size := by rw [← hb]; simp
          have hrow : ∀ (j : Nat) (d : D), (l.map byteD)[j]? = some d → ∃ u : Value, (bytesRow b (grownCap w b.size 0 e))[j]? = some u ∧ ∀ bx s w, Rep bx s w d u := fun j d hj => by
            simp only [List.getElem?_map, Option.map_eq_some_iff] at hj
            obtain ⟨y, hy, rfl⟩ := hj
            rw [← hb] at hy
            have hlt := lt_of_get hy
            rw [Array.length_toList] at hlt
            rw [Array.getElem?_toList, Array.getElem?_eq_getElem hlt] at hy
            injection hy with hy
            exact ⟨_, bytesRow_at b _ j hlt, fun bx s w => by rw [hy]; exact .int _ _⟩
          have hge := grownCap_ge w b.size 0 e
          generalize grownCap w b.size 0 e = cap at hrun hrow hge
          generalize hrw : bytesRow b cap = row at hrun hrow
          have hexec : (execOp a.eval o).run c.P w = .ok (.value (.slice (some ⟨w.heap.size, 0, none⟩) b.size cap)) (w.drew.alloc (.cells row e (row.size, row.size + 1))) := by
            simp [execOp, ho, hv, hrun]
          obtain ⟨f1, f2⟩ := hf.drew
          have hsize : w.drew.heap.size = w.heap.size := rfl
          cases own with
          | true =>
            simp only [cond_true] at hd
            injection hd with hd; injection hd with h1 h2; subst h1; subst h2
            obtain ⟨a1, a2⟩ := f1.alloc_stable row e l.length (row.size, row.size + 1)
            refine .value hexec a1 (f2.trans a2) ?_
            have hnew := heap_alloc_new w.drew (.cells row e (row.size, row.size + 1))
            have hcl : cellsL (l.map byteD) = l.map byteD := cellsL_leaf (fun x hx => by obtain ⟨b, _, rfl⟩ := List.mem_map.1 hx; rfl)
            have hok : OkL 1 (l.map byteD) := fun x hx => by obtain ⟨b, _, rfl⟩ := List.mem_map.1 hx; exact ⟨rfl, rfl⟩
            have hsz : l.length ≤ row.size := by
              rw [← hrw]; simp [bytesRow]; omega
            have := vec_new (bx := g.bx) (s := (g.withS w.drew.heap.size l.length).s) (sz := 1) (xs := l.map byteD) (cap := cap) (p := .none) (.inl rfl) (by simp; omega) hok hnew (by simp [Gh.withS]) (by rw [hcl]; simpa using hsz) (fun j d hj => by
              rw [hcl] at hj
              obtain ⟨u, hu, hr⟩ := hrow j d hj
              simp [Array.getD_eq_getD_getElem?, hu]; exact hr _ _ _)
            rw [List.length_map] at this
            rw [← hlen]
            exact .clean _ _ this
          | false =>
            simp only [cond_false] at hd
            injection hd with hd; injection hd with h1 h2; subst h1; subst h2
            obtain ⟨a1, a2⟩ := f1.alloc_box row e (row.size, row.size + 1) (l.map byteD) ⟨Nat.le_succ _, fun o ho => by simp; omega⟩ (fun j d hj => by
              obtain ⟨u, hu, hr⟩ := hrow j d hj
              exact ⟨u, hu, .clean _ _ (hr _ _ _)⟩)
            refine .value hexec a1 (f2.trans a2) ?_
            have : (g.newL st.L.length w.drew.heap.size).loc st.L.length = w.heap.size := by simp [Gh.newL]
            have h3 := RepF.lsl (c := c) (g := g.newL st.L.length w.drew.heap.size) (nL := dom (st.L ++ [some (l.map byteD)])) (nT := st.τ.length) (w := w.drew.alloc (.cells row e (row.size, row.size + 1))) st.L.length 0 l.length 1 cap (dom_new _ _) (by omega)
            rw [this, hlen] at h3
            rw [hlen]; exact h3
        · cases hd
      · cases hd
    · rename_i e i off len sz htd hx
      split at hd
      · rename_i ei hei
        split at hd
        · rename_i hed
          cases hst : Nat.beq s t with
          | false => rw [hst] at hd; cases hd
          | true =>
            rw [hst] at hd
            simp only [cond_true] at hd
            injection hd with hd; injection hd with h1 h2; subst h1; subst h2
            obtain rfl := beq_of hst
            rw [hx] at hr
            obtain ⟨cap, hv, hi, hcap⟩ := hr.lsl_inv
            have hut : c.P.underlying s = some (.slice e) := desc_of hT ht htd
            have hue : c.P.underlying e = some (.int .u8) := desc_of hT hei hed
            obtain ⟨ds, hds⟩ := hi
            obtain ⟨h0, cs, te, fr, hh, hnf, hcs⟩ := hf.boxL i ds hds
            have hsh : w.shape? (g.loc i) = some (te, cs.size) := by
              unfold World.shape?; rw [hh]
            have hrun : (convert s s (a.eval x)).run c.P w = .ok (a.eval x) (w.freeze ⟨g.loc i, cs.size, none⟩ 1) := by
              rw [hv]
              simp [convert, run_underlying hut, run_underlying hue, markStringish, hsh]
            have hnew : (w.freeze ⟨g.loc i, cs.size, none⟩ 1).heap[g.loc i]? = some (.cells cs te (if fr.1 == fr.2 then (cs.size, cs.size + 1) else (min fr.1 cs.size, max fr.2 (cs.size + 1)))) := by
              simp [World.freeze, Array.getElem?_modify, hh]
            have hoth : ∀ q, q ≠ g.loc i → (w.freeze ⟨g.loc i, cs.size, none⟩ 1).heap[q]? = w.heap[q]? := fun q hq => by
              simp [World.freeze, Array.getElem?_modify, Ne.symm hq]
            obtain ⟨a1, a2⟩ := hf.set_box hds (w.freeze ⟨g.loc i, cs.size, none⟩ 1) hoth (by simp [World.freeze]) rfl rfl rfl ds ⟨cs, te, _, hnew, by
              obtain ⟨n1, n2⟩ := hnf
              split
              · exact ⟨Nat.le_succ _, fun o ho' => by simp; omega⟩
              · rename_i hne
                have hne : fr.1 ≠ fr.2 := by simpa using hne
                have h4 : ¬ fr.1 < cs.size := fun h4 => by
                  have h5 := n2 fr.1 h4
                  simp at h5; omega
                refine ⟨by simp only []; omega, fun o ho' => ?_⟩
                simp only [Bool.and_eq_false_iff, decide_eq_false_iff_not]
                left; omega, fun j d hj => hcs j d hj⟩
            have hL : st.L.set i (some ds) = st.L := by
              apply List.ext_getElem?
              intro q
              by_cases hq : i = q
              · subst hq; rw [List.getElem?_set_self (lt_of_get hds), hds]
              · rw [List.getElem?_set_ne hq]
            rw [hL] at a1 a2
            refine .value (v := a.eval x) (by simp [execOp, ho, hrun]) a1 a2 ?_
            rw [hv]
            exact .lsl i off len sz cap ⟨ds, hds⟩ hcap
        · cases hd
      · cases hd
    · cases hd
  · cases hd

end Go.Proofs.YtploddijjofphaaDoor.V
