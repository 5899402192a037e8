/-
Fields, elements, cuts.
-/
import Derived.Test.YtploddijjofphaaDoorUJ
namespace Go.Proofs.YtploddijjofphaaDoor.V
set_option linter.unusedSimpArgs false
set_option linter.unusedVariables false
open Go Go.RowKit

variable {c : Cx} {g : Gh} {nL : Nat → Prop} {nT : Nat} {w : World}

theorem field_of {P : Program} {t : TypeId} {fs : List (Nat × TypeId)} (h : DescOk P t (.struct fs)) {f : Nat} {off : Nat} {u : TypeId} (hf : fs[f]? = some (off, u)) :
    ∃ (fields : Array Field) (fd : Field), P.underlying t = some (.struct fields) ∧ fields[f]? = some fd ∧ fd.offset = off ∧ fd.type = u := by
  obtain ⟨fields, hu, hm, _⟩ := h
  rw [← hm, List.getElem?_map] at hf
  cases hq : fields.toList[f]? with
  | none => simp [hq] at hf
  | some fd =>
    simp [hq] at hf
    exact ⟨fields, fd, hu, by simpa using hq, hf.1, hf.2⟩

theorem natV_inv {d : D} {j : Nat} {v : Value} (h : natV d = some j) (hr : RepF c g nL nT w d v) : ∃ (k : IntKind) (n : Int), d = .int k n ∧ v = .int k n ∧ 0 ≤ n ∧ n.toNat = j := by
  unfold natV at h
  split at h
  · rename_i k n
    split at h
    · rename_i hn; injection h with h
      exact ⟨k, n, rfl, hr.int_inv, hn, h⟩
    · cases h
  · cases h

theorem rep_drop {s : Nat → Nat} {bx : List Nat} {ds : List D} {a : Addr} (h : Rep bx s w (.fptr ds) (.pointer (some a))) (off : Nat) : Rep bx s w (.fptr (ds.drop off)) (.pointer (some (a.add off))) := by
  cases h with
  | fptr _ _ vs hc hr hs =>
    refine .fptr _ _ (fun i => vs (off + i)) (fun i d hi => ?_) (fun i d hi => ?_) (fun hne => ?_)
    · rw [List.getElem?_drop] at hi
      rw [add_add]; exact hc _ d hi
    · rw [List.getElem?_drop] at hi
      exact hr _ d hi
    · have h0 : ds ≠ [] := by rintro rfl; simp at hne
      have := hs h0
      have hl : off < ds.length := by
        rcases Nat.lt_or_ge off ds.length with h | h
        · exact h
        · exact absurd (List.drop_eq_nil_of_le h) hne
      rw [add_block, add_off, List.length_drop]; omega

theorem op_fieldAddr {T : Tab} (hT : TabOk c.P T) {st : St} {a : Act} {o : Oper} {t : TypeId} {x : Operand} {f off : Nat} {u : TypeId} {ti ui : TI} {fs : List (Nat × TypeId)} {d : D} (ho : o.op = .fieldAddr t x f)
    (hf : FS c g st.L st.τ st.B w) (he : EnvR c g (dom st.L) st.τ.length w st.ρ a) (ht : T t = some ti) (htd : ti.d = .struct fs) (hfs : fs[f]? = some (off, u)) (hu : T u = some ui) (hsz : ui.sz ≠ 0)
    (hd : fieldAddrV off (eval st.ρ x) = some d) : OpOk c g st w a o d st := by
  have hx := he.eval x
  obtain ⟨fields, fd, hund, hfd, h1, h2⟩ := field_of (desc_of hT ht htd) hfs
  have hrun : ∀ ad, a.eval x = .pointer (some ad) → (execOp a.eval o).run c.P w = .ok (.value (.pointer (some (ad.add off)))) w := fun ad hv => by
    have hs := run_sizeOf' (w := w) hT hu
    simp [execOp, ho, Instr.fieldAt, hv, run_underlying hund, hfd, Instr.sureAddr, fieldPlace, h2, hs, hsz, h1]
  generalize eval st.ρ x = X at hx hd
  cases X <;> simp only [fieldAddrV] at hd <;> try (cases hd; done)
  case lptr i o' =>
    injection hd with hd; subst hd
    obtain ⟨hv, hi⟩ := hx.lptr_inv
    refine .pure (hrun _ hv) hf ?_
    rw [add_plain]; exact .lptr i _ hi
  case bptr i o' =>
    injection hd with hd; subst hd
    obtain ⟨k, hk, hv⟩ := hx.bptr_inv
    refine .pure (hrun _ hv) hf ?_
    rw [add_plain]; exact .clean _ _ (.bptr _ _ k hk)
  case fptr ds =>
    split at hd
    · injection hd with hd; subst hd
      have hr := hx.fptr_inv
      obtain ⟨ad, hv⟩ := hr.fptr_val
      rw [hv] at hr
      exact .pure (hrun _ hv) hf (.clean _ _ (rep_drop hr off))
    · cases hd

theorem cellsL_get {sz : Nat} : ∀ {xs : List D} {j : Nat} {e : D}, (∀ x, x ∈ xs → x.cells.length = sz) → xs[j]? = some e → ∀ {k : Nat} {d : D}, e.cells[k]? = some d → (cellsL xs)[j * sz + k]? = some d
  | [], j, e, _, h, _, _, _ => by simp at h
  | x :: xs, 0, e, hs, h, k, d, hd => by
    simp at h; subst h
    have := lt_of_get hd
    simp only [cellsL, List.map_cons, List.flatten_cons, Nat.zero_mul, Nat.zero_add]
    rw [List.getElem?_append_left this]; exact hd
  | x :: xs, j + 1, e, hs, h, k, d, hd => by
    simp at h
    have ih := cellsL_get (fun y hy => hs y (by simp [hy])) h hd
    have hx := hs x (by simp)
    simp only [cellsL, List.map_cons, List.flatten_cons] at ih ⊢
    rw [List.getElem?_append_right (by rw [hx, Nat.add_mul]; omega)]
    rw [show (j + 1) * sz + k - x.cells.length = j * sz + k by rw [hx, Nat.add_mul]; omega]
    exact ih

theorem rowOf_inv {P : Program} {T : Tab} (hT : TabOk P T) {t : TypeId} {arr : Option Nat} {sz : Nat} (h : rowOf T t = some (arr, sz)) :
    (∃ n e ei, arr = some n ∧ P.underlying t = some (.array n e) ∧ T e = some ei ∧ ei.sz = sz) ∨ (∃ e ei, arr = none ∧ P.underlying t = some (.slice e) ∧ T e = some ei ∧ ei.sz = sz) := by
  unfold rowOf at h
  split at h
  · rename_i ti ht
    split at h
    · rename_i n e hd
      unfold esz at h
      cases he : T e with
      | none => simp [he] at h
      | some ei =>
        simp [he] at h
        exact .inl ⟨n, e, ei, h.1.symm, desc_of hT ht hd, he, h.2⟩
    · rename_i e hd
      unfold esz at h
      cases he : T e with
      | none => simp [he] at h
      | some ei =>
        simp [he] at h
        exact .inr (⟨e, ei, h.1.symm, desc_of hT ht hd, he, h.2⟩)
    · cases h
  · cases h

theorem op_indexAddr {T : Tab} (hT : TabOk c.P T) {st : St} {a : Act} {o : Oper} {t : TypeId} {x i : Operand} {arr : Option Nat} {sz j : Nat} {d : D} (ho : o.op = .indexAddr t x i)
    (hf : FS c g st.L st.τ st.B w) (he : EnvR c g (dom st.L) st.τ.length w st.ρ a) (hrow : rowOf T t = some (arr, sz)) (hj : natV (eval st.ρ i) = some j)
    (hd : indexAddrV sz arr (eval st.ρ x) j = some d) : OpOk c g st w a o d st := by
  have hx := he.eval x
  obtain ⟨k, n, _, hi, h0, hn⟩ := natV_inv hj (he.eval i)
  subst hn
  rcases rowOf_inv hT hrow with ⟨m, e, ei, rfl, hund, hei, rfl⟩ | ⟨e, ei, rfl, hund, hei, rfl⟩
  · simp only [indexAddrV] at hd
    split at hd
    · rename_i hlt
      have hrun : ∀ ad, a.eval x = .pointer (some ad) → (execOp a.eval o).run c.P w = .ok (.value (.pointer (some (ad.add (n.toNat * ei.sz))))) w := fun ad hv => by
        have hs := run_sizeOf' (w := w) hT hei
        have hb : 0 ≤ n ∧ n < (m : Int) := ⟨h0, by omega⟩
        simp [execOp, ho, Instr.indexAt, hv, hi, asIntOf, run_underlying hund, Instr.sureAddr, hb, hs]
      generalize eval st.ρ x = X at hx hd
      cases X <;> simp only at hd <;> try (cases hd; done)
      case lptr q o' =>
        injection hd with hd; subst hd
        obtain ⟨hv, hq⟩ := hx.lptr_inv
        refine .pure (hrun _ hv) hf ?_
        rw [add_plain]; exact .lptr q _ hq
      case bptr q o' =>
        injection hd with hd; subst hd
        obtain ⟨k, hk, hv⟩ := hx.bptr_inv
        refine .pure (hrun _ hv) hf ?_
        rw [add_plain]; exact .clean _ _ (.bptr _ _ k hk)
      case fptr ds =>
        split at hd
        · injection hd with hd; subst hd
          have hr := hx.fptr_inv
          obtain ⟨ad, hv⟩ := hr.fptr_val
          rw [hv] at hr
          exact .pure (hrun _ hv) hf (.clean _ _ (rep_drop hr _))
        · cases hd
    · cases hd
  · have hrun : ∀ ad len cap, a.eval x = .slice (some ad) len cap → n.toNat < len → (execOp a.eval o).run c.P w = .ok (.value (.pointer (some (ad.add (n.toNat * ei.sz))))) w := fun ad len cap hv hlt => by
      have hs := run_sizeOf' (w := w) hT hei
      have hb : 0 ≤ n ∧ n < (len : Int) := ⟨h0, by omega⟩
      simp [execOp, ho, Instr.indexAt, hv, hi, asIntOf, run_underlying hund, hb, hs]
    generalize eval st.ρ x = X at hx hd
    cases X <;> simp only [indexAddrV] at hd <;> try (cases hd; done)
    case vec sz' xs p =>
      cases hs : Nat.beq sz' ei.sz with
      | false => simp [hs] at hd
      | true =>
        have hs := beq_of hs
        subst hs
        simp only [show Nat.beq ei.sz ei.sz = true from Nat.beq_refl _, cond_true] at hd
        split at hd
        · rename_i el hel
          cases hl : Nat.beq el.cells.length ei.sz with
          | false => simp [hl] at hd
          | true =>
            simp only [hl, cond_true, Option.some.injEq] at hd
            subst hd
            have hv := hx.vec_inv
            generalize a.eval x = V at hv hrun
            cases hv with
            | nilv => simp at hel
            | vec _ _ _ ad cap vs hp hcap hsz hc hr hst =>
              refine .pure (hrun _ _ _ rfl (lt_of_get hel)) hf (.clean _ _ (.fptr _ _ (fun q => vs (n.toNat * ei.sz + q)) (fun q d hq => ?_) (fun q d hq => ?_) (fun hne => ?_)))
              · rw [add_add]; exact hc _ d (cellsL_get hsz.len hel hq)
              · exact hr _ d (cellsL_get hsz.len hel hq)
              · have h1 := List.length_pos_iff.2 hne
                have hpos := lt_of_get (cellsL_get hsz.len hel (List.getElem?_eq_getElem h1))
                have hne2 : cellsL xs ≠ [] := by intro h; rw [h] at hpos; simp at hpos
                have := hst hne2
                have hlt := lt_of_get hel
                have hl := beq_of hl
                have hm : (n.toNat + 1) * ei.sz ≤ xs.length * ei.sz := Nat.mul_le_mul_right _ hlt
                rw [Nat.add_mul] at hm
                rw [add_block, add_off]; omega
        · cases hd
    case lsl q off len sz' =>
      cases hs : Nat.beq sz' ei.sz with
      | false => simp [hs] at hd
      | true =>
        have hs := beq_of hs
        subst hs
        simp only [show Nat.beq ei.sz ei.sz = true from Nat.beq_refl _, cond_true] at hd
        split at hd
        · rename_i hlt
          injection hd with hd; subst hd
          obtain ⟨cap, hv, hq, _⟩ := hx.lsl_inv
          refine .pure (hrun _ _ _ hv hlt) hf ?_
          rw [add_plain]; exact .lptr q _ hq
        · cases hd

/-! ### Cuts -/
/-- What a bound must be. -/
theorem optV_inv {ρ : Env} {a : Act} (he : EnvR c g nL nT w ρ a) {x : Option Operand} {m : Option Nat} (h : optV ρ x = some m) :
    (x = none ∧ m = none) ∨ ∃ y k n, x = some y ∧ m = some n ∧ a.eval y = .int k (n : Int) := by
  unfold optV at h
  split at h
  · injection h with h; exact .inl ⟨rfl, h.symm⟩
  · rename_i y
    split at h
    · rename_i n hn
      injection h with h
      obtain ⟨k, z, _, hv, h0, hz⟩ := natV_inv hn (he.eval y)
      exact .inr ⟨y, k, n, rfl, h.symm, by rw [hv]; congr 1; omega⟩
    · cases h

def hiV (x : Option Nat) (k : IntKind) : Option Value := x.map fun n => .int k (n : Int)

/-- How a bound stands as a value. -/
def IsB (m : Option Nat) (v : Option Value) : Prop := (m = none ∧ v = none) ∨ ∃ k n, m = some n ∧ v = some (.int k (n : Int))

theorem optV_isB {ρ : Env} {a : Act} (he : EnvR c g nL nT w ρ a) {x : Option Operand} {m : Option Nat} (h : optV ρ x = some m) : IsB m (x.map a.eval) := by
  rcases optV_inv he h with ⟨rfl, rfl⟩ | ⟨y, k, n, rfl, rfl, hv⟩
  · exact .inl ⟨rfl, rfl⟩
  · exact .inr ⟨k, n, rfl, by simp [hv]⟩

theorem bounds_inv {len l h : Nat} {lo hi mx : Option Nat} (hb : bounds len lo hi mx = some (l, h)) :
    lo.getD 0 = l ∧ hi.getD len = h ∧ l ≤ h ∧ h ≤ mx.getD len ∧ mx.getD len ≤ len ∧ (mx.isSome = true → hi.isSome = true) := by
  unfold bounds at hb
  split at hb
  · rename_i hc
    injection hb with hb; injection hb with h1 h2
    subst h1; subst h2
    exact ⟨rfl, rfl, hc.1, hc.2.1, hc.2.2.1, hc.2.2.2⟩
  · cases hb

theorem run_bound {P : Program} (k : IntKind) (n y : Nat) (code : BoundsCode) (h : n ≤ y) : (Instr.sliceBound (.int k (n : Int)) y code).run P w = .ok n w := by
  have hb : 0 ≤ (n : Int) ∧ (n : Int) ≤ y := ⟨by omega, by omega⟩
  simp [Instr.sliceBound, asIntOf, hb]

theorem run_bounds {P : Program} (b : Bool) {len cap l h : Nat} {lo hi mx : Option Nat} (hb : bounds len lo hi mx = some (l, h)) (hcap : len ≤ cap) {lv hv mv : Option Value} (h1 : IsB lo lv) (h2 : IsB hi hv) (h3 : IsB mx mv) :
    (Instr.sliceBounds b len cap lv hv mv).run P w = .ok (l, h, mx.getD cap) w := by
  obtain ⟨e1, e2, q1, q2, q3, q4⟩ := bounds_inv hb
  rcases h3 with ⟨rfl, rfl⟩ | ⟨k3, n3, rfl, rfl⟩
  · simp only [Option.getD_none] at q2 q3
    rcases h2 with ⟨rfl, rfl⟩ | ⟨k2, n2, rfl, rfl⟩
    · simp only [Option.getD_none] at e2
      rcases h1 with ⟨rfl, rfl⟩ | ⟨k1, n1, rfl, rfl⟩
      · simp at e1; subst e1; subst e2; simp [Instr.sliceBounds]
      · simp at e1; subst e1; subst e2
        simp [Instr.sliceBounds, run_bound (w := w) (P := P) k1 n1 len _ q1]
    · simp only [Option.getD_some] at e2
      have hb2 := fun code => run_bound (w := w) (P := P) k2 n2 cap code (by omega)
      rcases h1 with ⟨rfl, rfl⟩ | ⟨k1, n1, rfl, rfl⟩
      · simp at e1; subst e1; subst e2; simp [Instr.sliceBounds, hb2]
      · simp at e1; subst e1; subst e2
        simp [Instr.sliceBounds, hb2, run_bound (w := w) (P := P) k1 n1 n2 _ q1]
  · simp only [Option.getD_some] at q2 q3 ⊢
    have hb3 := fun code => run_bound (w := w) (P := P) k3 n3 cap code (by omega)
    rcases h2 with ⟨rfl, rfl⟩ | ⟨k2, n2, rfl, rfl⟩
    · simp at q4
    · simp only [Option.getD_some] at e2
      have hb2 := fun code => run_bound (w := w) (P := P) k2 n2 n3 code (by omega)
      rcases h1 with ⟨rfl, rfl⟩ | ⟨k1, n1, rfl, rfl⟩
      · simp at e1; subst e1; subst e2; simp [Instr.sliceBounds, hb2, hb3]
      · simp at e1; subst e1; subst e2
        simp [Instr.sliceBounds, hb2, hb3, run_bound (w := w) (P := P) k1 n1 n2 _ q1]

theorem cells_take_drop {sz : Nat} {xs : List D} (hsz : ∀ x, x ∈ xs → x.cells.length = sz) (l h : Nat) : cellsL ((xs.take h).drop l) = ((cellsL xs).take (h * sz)).drop (l * sz) := by
  rw [cellsL_drop (sz := sz) l (fun x hx => hsz x (List.mem_of_mem_take hx)), cellsL_take (sz := sz) h hsz]

/-- A cut of a row is a row. -/
theorem rep_cut {bx : List Nat} {s : Nat → Nat} {sz : Nat} {xs : List D} {p : Perm} {ad : Addr} {cap : Nat} (hr : Rep bx s w (.vec sz xs p) (.slice (some ad) xs.length cap)) {l h : Nat} (hlh : l ≤ h) (hh : h ≤ xs.length) (m : Nat) (hm : h ≤ m)
    (q : Perm) (hq : q = .none ∨ q = .exact ∧ m = h) : Rep bx s w (.vec sz ((xs.take h).drop l) q) (.slice (some (if m = l then ad else ad.add (l * sz))) (h - l) (m - l)) := by
  have hlen : ((xs.take h).drop l).length = h - l := by simp; omega
  cases hr with
  | vec _ _ _ _ _ vs hp hcap hsz hc hr hs =>
    by_cases hml : m = l
    · have hz : (xs.take h).drop l = [] := List.drop_eq_nil_of_le (by simp; omega)
      rw [if_pos hml]
      have h0 : h - l = 0 := by omega
      rw [hz, h0]
      refine .vec sz [] q ad (m - l) vs (hq.imp id (fun hq => .inl ⟨hq.1, by simp; omega⟩)) (by simp) (fun x hx => by cases hx) (by simp [cellsL]) (by simp [cellsL]) (by simp [cellsL])
    · rw [if_neg hml, ← hlen]
      refine .vec sz _ q (ad.add (l * sz)) (m - l) (fun i => vs (l * sz + i)) (hq.imp id (fun hq => .inl ⟨hq.1, by rw [hlen]; omega⟩)) (by rw [hlen]; omega)
        (fun x hx => hsz x (List.mem_of_mem_take (List.mem_of_mem_drop hx))) (fun i d hi => ?_) (fun i d hi => ?_) (fun hne => ?_)
      · rw [cells_take_drop hsz.len, List.getElem?_drop] at hi
        have hlt := lt_of_get hi
        rw [List.length_take] at hlt
        rw [List.getElem?_take_of_lt (by omega)] at hi
        rw [add_add]; exact hc _ d hi
      · rw [cells_take_drop hsz.len, List.getElem?_drop] at hi
        have hlt := lt_of_get hi
        rw [List.length_take] at hlt
        rw [List.getElem?_take_of_lt (by omega)] at hi
        exact hr _ d hi
      · have hne2 : cellsL xs ≠ [] := by
          intro h0; rw [cells_take_drop hsz.len, h0] at hne; simp at hne
        have := hs hne2
        have h2 : (h - l) * sz + l * sz = h * sz := by rw [← Nat.add_mul]; congr 1; omega
        have h3 : h * sz ≤ xs.length * sz := Nat.mul_le_mul_right _ hh
        rw [add_block, add_off, hlen]; omega

theorem rowS_inv {T : Tab} {P : Program} (hT : TabOk P T) {t : TypeId} {arr : Option Nat} {sz : Nat} (h : rowS T t = some (arr, sz)) :
    (isStr T t = true ∧ P.underlying t = some .string) ∨ (isStr T t = false ∧ rowOf T t = some (arr, sz)) := by
  unfold rowS at h
  unfold isStr
  split at h
  · rename_i ti ht
    split at h
    · rename_i hd; exact .inl ⟨rfl, desc_of hT ht hd⟩
    · rename_i hd
      exact .inr ⟨rfl, h⟩
  · cases h

theorem op_slice {T : Tab} (hT : TabOk c.P T) {st : St} {a : Act} {o : Oper} {t : TypeId} {x : Operand} {lo hi mx : Option Operand} {arr : Option Nat} {sz : Nat} {l h m : Option Nat} {d : D} (ho : o.op = .slice t x lo hi mx)
    (hf : FS c g st.L st.τ st.B w) (he : EnvR c g (dom st.L) st.τ.length w st.ρ a) (hrow : rowS T t = some (arr, sz)) (hl : optV st.ρ lo = some l) (hh : optV st.ρ hi = some h) (hm : optV st.ρ mx = some m)
    (hd : sliceV (isStr T t) sz arr (eval st.ρ x) l h m = some d) : OpOk c g st w a o d st := by
  have hx := he.eval x
  have b1 := optV_isB he hl
  have b2 := optV_isB he hh
  have b3 := optV_isB he hm
  unfold sliceV at hd
  rcases rowS_inv hT hrow with ⟨hs, hund⟩ | ⟨hs, hrow⟩
  · simp only [hs, cond_true] at hd
    unfold sliceV.strSl at hd
    split at hd
    · rename_i s hxe
      split at hd
      · split at hd
        · rename_i q1 q2 hb
          injection hd with hd; subst hd
          rw [hxe] at hx
          obtain ⟨by_, hv, hby⟩ := hx.str_inv
          have hsz : by_.size = s.length := by rw [← hby]; simp
          rcases b3 with ⟨_, hb3⟩ | ⟨_, _, h0, _⟩
          · have hrun := run_bounds (P := c.P) (w := w) false (cap := s.length) hb (Nat.le_refl _) b1 b2 (.inl ⟨rfl, rfl⟩)
            refine .pure (v := .string (by_.extract q1 q2)) ?_ hf (.clean _ _ ?_)
            · rw [← hsz] at hrun
              simp [execOp, ho, Instr.sliceAt, Instr.slice, hv, run_underlying hund, hb3, hrun]
            · have := Rep.str (bx := g.bx) (s := g.s) (w := w) (by_.extract q1 q2)
              rw [ByteArray.data_extract, Array.toList_extract, hby] at this
              simpa [List.extract_eq_take_drop, List.drop_take] using this
          · cases h0
        · cases hd
      · cases hd
    · cases hd
  · simp only [hs, cond_false] at hd
    unfold sliceV.rowSl at hd
    rcases rowOf_inv hT hrow with ⟨n, e, ei, rfl, hund, hei, rfl⟩ | ⟨e, ei, rfl, hund, hei, rfl⟩
    · simp only at hd
      split at hd
      · rename_i i off hxe
        split at hd
        · rename_i q1 q2 hb
          split at hd
          · rename_i hlt
            injection hd with hd; subst hd
            rw [hxe] at hx
            obtain ⟨hv, hi⟩ := hx.lptr_inv
            rcases b3 with ⟨_, hb3⟩ | ⟨_, _, h0, _⟩
            · have hrun := run_bounds (P := c.P) (w := w) false (cap := n) hb (Nat.le_refl _) b1 b2 (.inl ⟨rfl, rfl⟩)
              obtain ⟨_, _, r1, r2, r3, _⟩ := bounds_inv hb
              simp only [Option.getD_none] at r2 r3 hrun
              have hs := run_sizeOf' (w := w) hT hei
              have hne : ¬ n = q1 := by omega
              refine .pure (v := .slice (some ⟨g.loc i, off + q1 * ei.sz, none⟩) (q2 - q1) (n - q1)) ?_ hf (.lsl _ _ _ _ _ hi (by omega))
              simp [execOp, ho, Instr.sliceAt, hv, run_underlying hund, hb3, Instr.sureAddr, hrun, hs, hne, add_plain]
            · cases h0
          · cases hd
        · cases hd
      · cases hd
    · simp only at hd
      have hs := run_sizeOf' (w := w) hT hei
      have hund2 : ∀ n e', TypeDesc.slice e ≠ .array n e' := by simp
      split at hd
      · rename_i sz' xs p hxe
        cases hsz : Nat.beq sz' ei.sz with
        | false => simp [hsz] at hd
        | true =>
          have hsz := beq_of hsz
          subst hsz
          simp only [show Nat.beq ei.sz ei.sz = true from Nat.beq_refl _, cond_true] at hd
          split at hd
          · rename_i q1 q2 hb
            injection hd with hd; subst hd
            rw [hxe] at hx
            obtain ⟨r1, r2, r3, r4, r5, _⟩ := bounds_inv hb
            have hrun0 : ∀ ad cap, a.eval x = .slice (some ad) xs.length cap → xs.length ≤ cap →
                (execOp a.eval o).run c.P w = .ok (.value (.slice (some (if m.getD cap = q1 then ad else ad.add (q1 * ei.sz))) (q2 - q1) (m.getD cap - q1))) w := fun ad cap hv hcap => by
              have hrun := run_bounds (P := c.P) (w := w) true hb hcap b1 b2 b3
              by_cases hq : m.getD cap = q1
              · simp [execOp, ho, Instr.sliceAt, Instr.slice, hv, run_underlying hund, hrun, hs, hq]
              · simp [execOp, ho, Instr.sliceAt, Instr.slice, hv, run_underlying hund, hrun, hs, hq]
            have hnil0 : a.eval x = .slice none 0 0 → xs = [] → (execOp a.eval o).run c.P w = .ok (.value (.slice none 0 0)) w ∧ (xs.take q2).drop q1 = [] := fun hv hx0 => by
              subst hx0
              have hrun := run_bounds (P := c.P) (w := w) true (cap := 0) hb (Nat.le_refl _) b1 b2 b3
              simp only [List.length_nil] at r2 r4 r5 hrun
              have z1 : q1 = 0 := by omega
              have z2 : q2 = 0 := by omega
              have z3 : m.getD 0 = 0 := by omega
              rw [z3, z1, z2] at hrun
              refine ⟨?_, by simp⟩
              simp [execOp, ho, Instr.sliceAt, Instr.slice, hv, run_underlying hund, hrun, hs]
            -- what is tight, with nothing cut behind
            have key : ∀ (q : Perm), (q = .none ∨ q = .exact ∧ ((∃ n, m = some n ∧ n = q2) ∨ (m = none ∧ q2 = xs.length ∧ Rep g.bx g.s w (.vec ei.sz xs .exact) (a.eval x)))) →
                ∃ v, (execOp a.eval o).run c.P w = .ok (.value v) w ∧ Rep g.bx g.s w (.vec ei.sz ((xs.take q2).drop q1) q) v := fun q hq => by
              have hr := hx.vec_inv
              rcases hr.vec_shape with ⟨hv, hx0⟩ | ⟨ad, cap, hv, hcap, _⟩
              · obtain ⟨h1, h2⟩ := hnil0 hv hx0
                exact ⟨_, h1, by rw [h2]; exact .nilv _ _ (hq.imp id And.left)⟩
              · rw [hv] at hr
                rcases hq with rfl | ⟨rfl, ⟨n, rfl, rfl⟩ | ⟨rfl, rfl, hex⟩⟩
                · exact ⟨_, hrun0 ad cap hv hcap, rep_cut hr r3 (by omega) _ (by cases m <;> simp_all <;> omega) .none (.inl rfl)⟩
                · exact ⟨_, hrun0 ad cap hv hcap, rep_cut hr r3 (by simp at r5; omega) _ (by simp) .exact (.inr ⟨rfl, rfl⟩)⟩
                · rw [hv] at hex
                  obtain ⟨h1, _⟩ | ⟨ad', cap', h1, _, h3⟩ := hex.vec_shape
                  · cases h1
                  · injection h1 with h1 h4 h5
                    have := h3 rfl
                    subst h5; subst this
                    exact ⟨_, hrun0 ad _ hv (Nat.le_refl _), rep_cut hr r3 (Nat.le_refl _) _ (by simp) .exact (.inr ⟨rfl, rfl⟩)⟩
            cases hcp : cutP p h m q1 q2 with
            | none =>
              obtain ⟨v, h1, h2⟩ := key .none (.inl rfl)
              exact .pure h1 hf (.clean _ _ h2)
            | fresh =>
              obtain ⟨v, h1, h2⟩ := key .none (.inl rfl)
              exact .pure h1 hf (.fresh _ _ _ h2)
            | real =>
              exfalso
              unfold cutP at hcp
              repeat' split at hcp
              all_goals cases hcp
              all_goals simp_all
            | exact =>
              have hq : (∃ n, m = some n ∧ n = q2) ∨ (m = none ∧ q2 = xs.length ∧ p = .exact) := by
                unfold cutP at hcp
                cases m with
                | some n =>
                  simp only at hcp
                  by_cases hq : q2 = n
                  · exact .inl ⟨n, rfl, hq.symm⟩
                  · rw [if_neg hq] at hcp; cases hcp
                | none =>
                  simp only at hcp
                  cases h with
                  | some _ => cases hcp
                  | none =>
                    simp only at hcp
                    cases p with
                    | exact => exact .inr ⟨rfl, by simpa using r2.symm, rfl⟩
                    | own i => simp only at hcp; split at hcp <;> cases hcp
                    | _ => cases hcp
              obtain ⟨v, h1, h2⟩ := key .exact (.inr ⟨rfl, hq.imp id (fun ⟨h1, h2, h3⟩ => ⟨h1, h2, by subst h3; exact hx.exact_inv⟩)⟩)
              exact .pure h1 hf (.clean _ _ h2)
            | own i =>
              have hq : m = none ∧ q2 = xs.length ∧ q1 = 0 ∧ p = .own i := by
                unfold cutP at hcp
                cases m with
                | some n => simp only at hcp; split at hcp <;> cases hcp
                | none =>
                  simp only at hcp
                  cases h with
                  | some _ => cases hcp
                  | none =>
                    simp only at hcp
                    cases p with
                    | own j =>
                      simp only at hcp
                      split at hcp
                      · rename_i h0; injection hcp with hcp; subst hcp; exact ⟨rfl, by simpa using r2.symm, h0, rfl⟩
                      · cases hcp
                    | _ => cases hcp
              obtain ⟨rfl, rfl, rfl, rfl⟩ := hq
              have hx' := hx
              obtain ⟨hi, hcl, ⟨rfl, hex⟩ | ⟨how, cap, hv, hen, hbs⟩⟩ := hx.own_inv
              · obtain ⟨v, h1, h2⟩ := key .exact (.inr ⟨rfl, .inr ⟨rfl, rfl, hex⟩⟩)
                have e0 : (List.take ([] : List D).length ([] : List D)).drop 0 = [] := rfl
                rw [e0] at h2 ⊢
                exact .pure h1 hf (.tight i _ _ hi h2)
              · rw [hv] at hcl hx'
                have hcap : xs.length ≤ cap := by
                  rcases hcl.vec_shape with ⟨h, _⟩ | ⟨_, _, h, h2, _⟩
                  · cases h
                  · injection h with _ _ h; subst h; exact h2
                have := hrun0 _ _ hv hcap
                refine .pure this hf ?_
                simp only [Option.getD_none, List.take_length, List.drop_zero, Nat.sub_zero, Nat.zero_mul]
                have e0 : (⟨g.tk i, 0, none⟩ : Addr).add 0 = ⟨g.tk i, 0, none⟩ := rfl
                rw [e0, ite_self]
                exact hx'
          · cases hd
      · rename_i i off len sz' hxe
        cases hsz : Nat.beq sz' ei.sz with
        | false => simp [hsz] at hd
        | true =>
          have hsz := beq_of hsz
          subst hsz
          simp only [show Nat.beq ei.sz ei.sz = true from Nat.beq_refl _, cond_true] at hd
          split at hd
          · rename_i q1 q2 hb
            split at hd
            · rename_i hlt
              injection hd with hd; subst hd
              rw [hxe] at hx
              obtain ⟨cap, hv, hi, hcap⟩ := hx.lsl_inv
              rcases b3 with ⟨_, hb3⟩ | ⟨_, _, h0, _⟩
              · have hrun := run_bounds (P := c.P) (w := w) true (cap := cap) hb hcap b1 b2 (.inl ⟨rfl, rfl⟩)
                obtain ⟨_, _, r1, r2, r3, _⟩ := bounds_inv hb
                simp only [Option.getD_none] at r2 r3 hrun
                have hne : ¬ cap = q1 := by omega
                refine .pure (v := .slice (some ⟨g.loc i, off + q1 * ei.sz, none⟩) (q2 - q1) (cap - q1)) ?_ hf (.lsl _ _ _ _ _ hi (by omega))
                simp [execOp, ho, Instr.sliceAt, Instr.slice, hv, run_underlying hund, hb3, hrun, hs, hne, add_plain]
              · cases h0
            · cases hd
          · cases hd
      · cases hd

end Go.Proofs.YtploddijjofphaaDoor.V
