import Derived.Test.YtbbbhalmlboapaaDoorUJ
import Derived.Laws.BytesString
import Derived.Laws.Tables
import Derived.Great.BuildSlice
import Derived.Laws.MakeOwn
import Derived.Laws.IdiomStrings
/-
Fields, elements, cuts.
-/
namespace Go.Proofs.YtbbbhalmlboapaaDoor.V
set_option linter.unusedSimpArgs false
set_option linter.unusedVariables false
open Go Go.RowKit

variable {c : Cx} {g : Gh} {nL : Nat → Prop} {nT : Nat} {w : World}

theorem field_of {P : Program} {t : TypeId} {fs : List (Nat × TypeId)} (h : DescOk P t (.struct fs)) {f : Nat} {off : Nat} {u : TypeId} (hf : fs[f]? = some (off, u)) :
    ∃ (fields : Array Field) (fd : Field), P.underlying t = some (.struct fields) ∧ fields[f]? = some fd ∧ fd.offset = off ∧ fd.type = u := by
  obtain ⟨fields, hu, hm, _⟩ := h
  rw [← hm, List.getElem?_map] at hf
  cases hq : fields.toList[f]? with
  | none => simp [hq] at hf
  | some fd =>
    simp [hq] at hf
    exact ⟨fields, fd, hu, by simpa using hq, hf.1, hf.2⟩

theorem natV_inv {d : D} {j : Nat} {v : Value} (h : natV d = some j) (hr : RepF c g nL nT w d v) : ∃ (k : IntKind) (n : Int), d = .int k n ∧ v = .int k n ∧ 0 ≤ n ∧ n.toNat = j := by
  unfold natV at h
  split at h
  · rename_i k n
    split at h
    · rename_i hn; injection h with h
      exact ⟨k, n, rfl, hr.int_inv, hn, h⟩
    · cases h
  · cases h

theorem rep_drop {s : Nat → Nat} {bx : List Nat} {ds : List D} {a : Addr} (h : Rep bx s w (.fptr ds) (.pointer (some a))) (off : Nat) : Rep bx s w (.fptr (ds.drop off)) (.pointer (some (a.add off))) := by
  cases h with
  | fptr _ _ vs hc hr hs =>
    refine .fptr _ _ (fun i => vs (off + i)) (fun i d hi => ?_) (fun i d hi => ?_) (fun hne => ?_)
    · rw [List.getElem?_drop] at hi
      rw [add_add]; exact hc _ d hi
    · rw [List.getElem?_drop] at hi
      exact hr _ d hi
    · have h0 : ds ≠ [] := by rintro rfl; simp at hne
      have := hs h0
      have hl : off < ds.length := by
        rcases Nat.lt_or_ge off ds.length with h | h
        · exact h
        · exact absurd (List.drop_eq_nil_of_le h) hne
      rw [add_block, add_off, List.length_drop]; omega

theorem op_fieldAddr {T : Tab} (hT : TabOk c.P T) {st : St} {a : Act} {o : Oper} {t : TypeId} {x : Operand} {f off : Nat} {u : TypeId} {ti ui : TI} {fs : List (Nat × TypeId)} {d : D} (ho : o.op = .fieldAddr t x f)
    (hf : FS c g st.L st.τ st.B w) (he : EnvR c g (dom st.L) st.τ.length w st.ρ a) (ht : T t = some ti) (htd : ti.d = .struct fs) (hfs : fs[f]? = some (off, u)) (hu : T u = some ui) (hsz : ui.sz ≠ 0)
    (hd : fieldAddrV off (eval st.ρ x) = some d) : OpOk c g st w a o d st := by
  have hx := he.eval x
  obtain ⟨fields, fd, hund, hfd, h1, h2⟩ := field_of (desc_of hT ht htd) hfs
  have hrun : ∀ ad, a.eval x = .pointer (some ad) → (execOp a.eval o).run c.P w = .ok (.value (.pointer (some (ad.add off)))) w := fun ad hv => by
    have hs := run_sizeOf' (w := w) hT hu
    simp [execOp, ho, Instr.fieldAt, hv, run_underlying hund, hfd, Instr.sureAddr, fieldPlace, h2, hs, hsz, h1]
  generalize eval st.ρ x = X at hx hd
  cases X <;> simp only [fieldAddrV] at hd <;> try (cases hd; done)
  case lptr i o' =>
    injection hd with hd; subst hd
    obtain ⟨hv, hi⟩ := hx.lptr_inv
    refine .pure (hrun _ hv) hf ?_
    rw [add_plain]; exact .lptr i _ hi
  case bptr i o' =>
    injection hd with hd; subst hd
    obtain ⟨k, hk, hv⟩ := hx.bptr_inv
    refine .pure (hrun _ hv) hf ?_
    rw [add_plain]; exact .clean _ _ (.bptr _ _ k hk)
  case fptr ds =>
    split at hd
    · injection hd with hd; subst hd
      have hr := hx.fptr_inv
      obtain ⟨ad, hv⟩ := hr.fptr_val
      rw [hv] at hr
      exact .pure (hrun _ hv) hf (.clean _ _ (rep_drop hr off))
    · cases hd

theorem cellsL_get {sz : Nat} : ∀ {xs : List D} {j : Nat} {e : D}, (∀ x, x ∈ xs → x.cells.length = sz) → xs[j]? = some e → ∀ {k : Nat} {d : D}, e.cells[k]? = some d → (cellsL xs)[j * sz + k]? = some d
  | [], j, e, _, h, _, _, _ => by simp at h
  | x :: xs, 0, e, hs, h, k, d, hd => by
    simp at h; subst h
    have := lt_of_get hd
    simp only [cellsL, List.map_cons, List.flatten_cons, Nat.zero_mul, Nat.zero_add]
    rw [List.getElem?_append_left this]; exact hd
  | x :: xs, j + 1, e, hs, h, k, d, hd => by
    simp at h
    have ih := cellsL_get (fun y hy => hs y (by simp [hy])) h hd
    have hx := hs x (by simp)
    simp only [cellsL, List.map_cons, List.flatten_cons] at ih ⊢
    rw [List.getElem?_append_right (by rw [hx, Nat.add_mul]; omega)]
    rw [show (j + 1) * sz + k - x.cells.length = j * sz + k by rw [hx, Nat.add_mul]; omega]
    exact ih

theorem rowOf_inv {P : Program} {T : Tab} (hT : TabOk P T) {t : TypeId} {arr : Option Nat} {sz : Nat} (h : rowOf T t = some (arr, sz)) :
    (∃ n e ei, arr = some n ∧ P.underlying t = some (.array n e) ∧ T e = some ei ∧ ei.sz = sz) ∨ (∃ e ei, arr = none ∧ P.underlying t = some (.slice e) ∧ T e = some ei ∧ ei.sz = sz) := by
  unfold rowOf at h
  split at h
  · rename_i ti ht
    split at h
    · rename_i n e hd
      unfold esz at h
      cases he : T e with
      | none => simp [he] at h
      | some ei =>
        simp [he] at h
        exact .inl ⟨n, e, ei, h.1.symm, desc_of hT ht hd, he, h.2⟩
    · rename_i e hd
      unfold esz at h
      cases he : T e with
      | none => simp [he] at h
      | some ei =>
        simp [he] at h
        exact .inr (⟨e, ei, h.1.symm, desc_of hT ht hd, he, h.2⟩)
    · cases h
  · cases h

theorem op_indexAddr {T : Tab} (hT : TabOk c.P T) {st : St} {a : Act} {o : Oper} {t : TypeId} {x i : Operand} {arr : Option Nat} {sz j : Nat} {d : D} (ho : o.op = .indexAddr t x i)
    (hf : FS c g st.L st.τ st.B w) (he : EnvR c g (dom st.L) st.τ.length w st.ρ a) (hrow : rowOf T t = some (arr, sz)) (hj : natV (eval st.ρ i) = some j)
    (hd : indexAddrV sz arr (eval st.ρ x) j = some d) : OpOk c g st w a o d st := by
  have hx := he.eval x
  obtain ⟨k, n, _, hi, h0, hn⟩ := natV_inv hj (he.eval i)
  subst hn
  rcases rowOf_inv hT hrow with ⟨m, e, ei, rfl, hund, hei, rfl⟩ | ⟨e, ei, rfl, hund, hei, rfl⟩
  · simp only [indexAddrV] at hd
    split at hd
    · rename_i hlt
      have hrun : ∀ ad, a.eval x = .pointer (some ad) → (execOp a.eval o).run c.P w = .ok (.value (.pointer (some (ad.add (n.toNat * ei.sz))))) w := fun ad hv => by
        have hs := run_sizeOf' (w := w) hT hei
        have hb : 0 ≤ n ∧ n < (m : Int) := ⟨h0, by omega⟩
        simp [execOp, ho, Instr.indexAt, hv, hi, asIntOf, run_underlying hund, Instr.sureAddr, hb, hs]
      generalize eval st.ρ x = X at hx hd
      cases X <;> simp only at hd <;> try (cases hd; done)
      case lptr q o' =>
        injection hd with hd; subst hd
        obtain ⟨hv, hq⟩ := hx.lptr_inv
        refine .pure (hrun _ hv) hf ?_
        rw [add_plain]; exact .lptr q _ hq
      case bptr q o' =>
        injection hd with hd; subst hd
        obtain ⟨k, hk, hv⟩ := hx.bptr_inv
        refine .pure (hrun _ hv) hf ?_
        rw [add_plain]; exact .clean _ _ (.bptr _ _ k hk)
      case fptr ds =>
        split at hd
        · injection hd with hd; subst hd
          have hr := hx.fptr_inv
          obtain ⟨ad, hv⟩ := hr.fptr_val
          rw [hv] at hr
          exact .pure (hrun _ hv) hf (.clean _ _ (rep_drop hr _))
        · cases hd
    · cases hd
  · have hrun : ∀ ad len cap, a.eval x = .slice (some ad) len cap → n.toNat < len → (execOp a.eval o).run c.P w = .ok (.value (.pointer (some (ad.add (n.toNat * ei.sz))))) w := fun ad len cap hv hlt => by
      have hs := run_sizeOf' (w := w) hT hei
      have hb : 0 ≤ n ∧ n < (len : Int) := ⟨h0, by omega⟩
      simp [execOp, ho, Instr.indexAt, hv, hi, asIntOf, run_underlying hund, hb, hs]
    generalize eval st.ρ x = X at hx hd
    cases X <;> simp only [indexAddrV] at hd <;> try (cases hd; done)
    case vec sz' xs p =>
      cases hs : Nat.beq sz' ei.sz with
      | false => simp [hs] at hd
      | true =>
        have hs := beq_of hs
        subst hs
        simp only [show Nat.beq ei.sz ei.sz = true from Nat.beq_refl _, cond_true] at hd
        split at hd
        · rename_i el hel
          cases hl : Nat.beq el.cells.length ei.sz with
          | false => simp [hl] at hd
          | true =>
            simp only [hl, cond_true, Option.some.injEq] at hd
            subst hd
            have hv := hx.vec_inv
            generalize a.eval x = V at hv hrun
            cases hv with
            | nilv => simp at hel
            | vec _ _ _ ad cap vs hp hcap hsz hc hr hst =>
              refine .pure (hrun _ _ _ rfl (lt_of_get hel)) hf (.clean _ _ (.fptr _ _ (fun q => vs (n.toNat * ei.sz + q)) (fun q d hq => ?_) (fun q d hq => ?_) (fun hne => ?_)))
              · rw [add_add]; exact hc _ d (cellsL_get hsz.len hel hq)
              · exact hr _ d (cellsL_get hsz.len hel hq)
              · have h1 := List.length_pos_iff.2 hne
                have hpos := lt_of_get (cellsL_get hsz.len hel (List.getElem?_eq_getElem h1))
                have hne2 : cellsL xs ≠ [] := by intro h; rw [h] at hpos; simp at hpos
                have := hst hne2
                have hlt := lt_of_get hel
                have hl := beq_of hl
                have hm : (n.toNat + 1) * ei.sz ≤ xs.length * ei.sz := Nat.mul_le_mul_right _ hlt
                rw [Nat.add_mul] at hm
                rw [add_block, add_off]; omega
        · cases hd
    case lsl q off len sz' =>
      cases hs : Nat.beq sz' ei.sz with
      | false => simp [hs] at hd
      | true =>
        have hs := beq_of hs
        subst hs
        simp only [show Nat.beq ei.sz ei.sz = true from Nat.beq_refl _, cond_true] at hd
        split at hd
        · rename_i hlt
          injection hd with hd; subst hd
          obtain ⟨cap, hv, hq, _⟩ := hx.lsl_inv
          refine .pure (hrun _ _ _ hv hlt) hf ?_
          rw [add_plain]; exact .lptr q _ hq
        · cases hd

/-! ### Cuts -/
/-- What a bound must be. -/
theorem optV_inv {ρ : Env} {a : Act} (he : EnvR c g nL nT w ρ a) {x : Option Operand} {m : Option Nat} (h : optV ρ x = some m) :
    (x = none ∧ m = none) ∨ ∃ y k n, x = some y ∧ m = some n ∧ a.eval y = .int k (n : Int) := by
  unfold optV at h
  split at h
  · injection h with h; exact .inl ⟨rfl, h.symm⟩
  · rename_i y
    split at h
    · rename_i n hn
      injection h with h
      obtain ⟨k, z, _, hv, h0, hz⟩ := natV_inv hn (he.eval y)
      exact .inr ⟨y, k, n, rfl, h.symm, by rw [hv]; congr 1; omega⟩
    · cases h

def hiV (x : Option Nat) (k : IntKind) : Option Value := x.map fun n => .int k (n : Int)

/-- How a bound stands as a value. -/
def IsB (m : Option Nat) (v : Option Value) : Prop := (m = none ∧ v = none) ∨ ∃ k n, m = some n ∧ v = some (.int k (n : Int))

theorem optV_isB {ρ : Env} {a : Act} (he : EnvR c g nL nT w ρ a) {x : Option Operand} {m : Option Nat} (h : optV ρ x = some m) : IsB m (x.map a.eval) := by
  rcases optV_inv he h with ⟨rfl, rfl⟩ | ⟨y, k, n, rfl, rfl, hv⟩
  · exact .inl ⟨rfl, rfl⟩
  · exact .inr ⟨k, n, rfl, by simp [hv]⟩

theorem bounds_inv {len l h : Nat} {lo hi mx : Option Nat} (hb : bounds len lo hi mx = some (l, h)) :
    lo.getD 0 = l ∧ hi.getD len = h ∧ l ≤ h ∧ h ≤ mx.getD len ∧ mx.getD len ≤ len ∧ (mx.isSome = true → hi.isSome = true) := by
  unfold bounds at hb
  split at hb
  · rename_i hc
    injection hb with hb; injection hb with h1 h2
    subst h1; subst h2
    exact ⟨rfl, rfl, hc.1, hc.2.1, hc.2.2.1, hc.2.2.2⟩
  · cases hb

theorem run_bound {P : Program} (k : IntKind) (n y : Nat) (code : BoundsCode) (h : n ≤ y) : (Instr.sliceBound (.int k (n : Int)) y code).run P w = .ok n w := by
  have hb : 0 ≤ (n : Int) ∧ (n : Int) ≤ y := ⟨by omega, by omega⟩
  simp [Instr.sliceBound, asIntOf, hb]

theorem run_bounds {P : Program} (b : Bool) {len cap l h : Nat} {lo hi mx : Option Nat} (hb : bounds len lo hi mx = some (l, h)) (hcap : len ≤ cap) {lv hv mv : Option Value} (h1 : IsB lo lv) (h2 : IsB hi hv) (h3 : IsB mx mv) :
    (Instr.sliceBounds b len cap lv hv mv).run P w = .ok (l, h, mx.getD cap) w := by
  obtain ⟨e1, e2, q1, q2, q3, q4⟩ := bounds_inv hb
  rcases h3 with ⟨rfl, rfl⟩ | ⟨k3, n3, rfl, rfl⟩
  · simp only [Option.getD_none] at q2 q3
    rcases h2 with ⟨rfl, rfl⟩ | ⟨k2, n2, rfl, rfl⟩
    · simp only [Option.getD_none] at e2
      rcases h1 with ⟨rfl, rfl⟩ | ⟨k1, n1, rfl, rfl⟩
      · simp at e1; subst e1; subst e2; simp [Instr.sliceBounds]
      · simp at e1; subst e1; subst e2
        simp [Instr.sliceBounds, run_bound (w := w) (P := P) k1 n1 len _ q1]
    · simp only [Option.getD_some] at e2
      have hb2 := fun code => run_bound (w := w) (P := P) k2 n2 cap code (by omega)
      rcases h1 with ⟨rfl, rfl⟩ | ⟨k1, n1, rfl, rfl⟩
      · simp at e1; subst e1; subst e2; simp [Instr.sliceBounds, hb2]
      · simp at e1; subst e1; subst e2
        simp [Instr.sliceBounds, hb2, run_bound (w := w) (P := P) k1 n1 n2 _ q1]
  · simp only [Option.getD_some] at q2 q3 ⊢
    have hb3 := fun code => run_bound (w := w) (P := P) k3 n3 cap code (by omega)
    rcases h2 with ⟨rfl, rfl⟩ | ⟨k2, n2, rfl, rfl⟩
    · simp at q4
    · simp only [Option.getD_some] at e2
      have hb2 := fun code => run_bound (w := w) (P := P) k2 n2 n3 code (by omega)
      rcases h1 with ⟨rfl, rfl⟩ | ⟨k1, n1, rfl, rfl⟩
      · simp at e1; subst e1; subst e2; simp [Instr.sliceBounds, hb2, hb3]
      · simp at e1; subst e1; subst e2
        simp [Instr.sliceBounds, hb2, hb3, run_bound (w := w) (P := P) k1 n1 n2 _ q1]

theorem cells_take_drop {sz : Nat} {xs : List D} (hsz : ∀ x, x ∈ xs → x.cells.length = sz) (l h : Nat) : cellsL ((xs.take h).drop l) = ((cellsL xs).take (h * sz)).drop (l * sz) := by
  rw [cellsL_drop (sz := sz) l (fun x hx => hsz x (List.mem_of_mem_take hx)), cellsL_take (sz := sz) h hsz]

/-- A cut of a row is a row. -/
theorem rep_cut {bx : List Nat} {s : Nat → Nat} {sz : Nat} {xs : List D} {p : Perm} {ad : Addr} {cap : Nat} (hr : Rep bx s w (.vec sz xs p) (.slice (some ad) xs.length cap)) {l h : Nat} (hlh : l ≤ h) (hh : h ≤ xs.length) (m : Nat) (hm : h ≤ m)
    (q : Perm) (hq : q = .none ∨ q = .exact ∧ m = h) : Rep bx s w (.vec sz ((xs.take h).drop l) q) (.slice (some (if m = l then ad else ad.add (l * sz))) (h - l) (m - l)) := by
  have hlen : ((xs.take h).drop l).length = h - l := by simp; omega
  cases hr with
  | vec _ _ _ _ _ vs hp hcap hsz hc hr hs =>
    by_cases hml : m = l
    · have hz : (xs.take h).drop l = [] := List.drop_eq_nil_of_le (by simp; omega)
      rw [if_pos hml]
      have h0 : h - l = 0 := by omega
      rw [hz, h0]
      refine .vec sz [] q ad (m - l) vs (hq.imp id (fun hq => .inl ⟨hq.1, by simp; omega⟩)) (by simp) (fun x hx => by cases hx) (by simp [cellsL]) (by simp [cellsL]) (by simp [cellsL])
    · rw [if_neg hml, ← hlen]
      refine .vec sz _ q (ad.add (l * sz)) (m - l) (fun i => vs (l * sz + i)) (hq.imp id (fun hq => .inl ⟨hq.1, by rw [hlen]; omega⟩)) (by rw [hlen]; omega)
        (fun x hx => hsz x (List.mem_of_mem_take (List.mem_of_mem_drop hx))) (fun i d hi => ?_) (fun i d hi => ?_) (fun hne => ?_)
      · rw [cells_take_drop hsz.len, List.getElem?_drop] at hi
        have hlt := lt_of_get hi
        rw [List.length_take] at hlt
        rw [List.getElem?_take_of_lt (by omega)] at hi
        rw [add_add]; exact hc _ d hi
      · rw [cells_take_drop hsz.len, List.getElem?_drop] at hi
        have hlt := lt_of_get hi
        rw [List.length_take] at hlt
        rw [List.getElem?_take_of_lt (by omega)] at hi
        exact hr _ d hi
      · have hne2 : cellsL xs ≠ [] := by
          intro h0; rw [cells_take_drop hsz.len, h0] at hne; simp at hne
        have := hs hne2
        have h2 : (h - l) * sz + l * sz = h * sz := by rw [← Nat.add_mul]; congr 1; omega
        have h3 : h * sz ≤ xs.length * sz := Nat.mul_le_mul_right _ hh
        rw [add_block, add_off, hlen]; omega

theorem rowS_inv {T : Tab} {P : Program} (hT : TabOk P T) {t : TypeId} {arr : Option Nat} {sz : Nat} (h : rowS T t = some (arr, sz)) :
    (isStr T t = true ∧ P.underlying t = some .string) ∨ (isStr T t = false ∧ rowOf T t = some (arr, sz)) := by
  unfold rowS at h
  unfold isStr
  split at h
  · rename_i ti ht
    split at h
    · rename_i hd; exact .inl ⟨rfl, desc_of hT ht hd⟩
    · rename_i hd
      exact .inr ⟨rfl, h⟩
  · cases h

theorem op_slice {T : Tab} (hT : TabOk c.P T) {st : St} {a : Act} {o : Oper} {t : TypeId} {x : Operand} {lo hi mx : Option Operand} {arr : Option Nat} {sz : Nat} {l h m : Option Nat} {d : D} (ho : o.op = .slice t x lo hi mx)
    (hf : FS c g st.L st.τ st.B w) (he : EnvR c g (dom st.L) st.τ.length w st.ρ a) (hrow : rowS T t = some (arr, sz)) (hl : optV st.ρ lo = some l) (hh : optV st.ρ hi = some h) (hm : optV st.ρ mx = some m)
    (hd : sliceV (isStr T t) sz arr (eval st.ρ x) l h m = some d) : OpOk c g st w a o d st := by
  have hx := he.eval x
  have b1 := optV_isB he hl
  have b2 := optV_isB he hh
  have b3 := optV_isB he hm
  unfold sliceV at hd
  rcases rowS_inv hT hrow with ⟨hs, hund⟩ | ⟨hs, hrow⟩
  · simp only [hs, cond_true] at hd
    unfold sliceV.strSl at hd
    split at hd
    · rename_i s hxe
      split at hd
      · split at hd
        · rename_i q1 q2 hb
          injection hd with hd; subst hd
          rw [hxe] at hx
          obtain ⟨by_, hv, hby⟩ := hx.str_inv
          have hsz : by_.size = s.length := by rw [← hby]; simp
          rcases b3 with ⟨_, hb3⟩ | ⟨_, _, h0, _⟩
          · have hrun := run_bounds (P := c.P) (w := w) false (cap := s.length) hb (Nat.le_refl _) b1 b2 (.inl ⟨rfl, rfl⟩)
            refine .pure (v := .string (by_.extract q1 q2)) ?_ hf (.clean _ _ ?_)
            · rw [← hsz] at hrun
              simp [execOp, ho, Instr.sliceAt, Instr.slice, hv, run_underlying hund, hb3, hrun]
            · have := Rep.str (bx := g.bx) (s := g.s) (w := w) (by_.extract q1 q2)
              rw [ByteArray.data_extract, Array.toList_extract, hby] at this
              simpa [List.extract_eq_take_drop, List.drop_take] using this
          · cases h0
        · cases hd
      · cases hd
    · cases hd
  · simp only [hs, cond_false] at hd
    unfold sliceV.rowSl at hd
    rcases rowOf_inv hT hrow with ⟨n, e, ei, rfl, hund, hei, rfl⟩ | ⟨e, ei, rfl, hund, hei, rfl⟩
    · simp only at hd
      split at hd
      · rename_i i off hxe
        split at hd
        · rename_i q1 q2 hb
          split at hd
          · rename_i hlt
            injection hd with hd; subst hd
            rw [hxe] at hx
            obtain ⟨hv, hi⟩ := hx.lptr_inv
            rcases b3 with ⟨_, hb3⟩ | ⟨_, _, h0, _⟩
            · have hrun := run_bounds (P := c.P) (w := w) false (cap := n) hb (Nat.le_refl _) b1 b2 (.inl ⟨rfl, rfl⟩)
              obtain ⟨_, _, r1, r2, r3, _⟩ := bounds_inv hb
              simp only [Option.getD_none] at r2 r3 hrun
              have hs := run_sizeOf' (w := w) hT hei
              have hne : ¬ n = q1 := by omega
              refine .pure (v := .slice (some ⟨g.loc i, off + q1 * ei.sz, none⟩) (q2 - q1) (n - q1)) ?_ hf (.lsl _ _ _ _ _ hi (by omega))
              simp [execOp, ho, Instr.sliceAt, hv, run_underlying hund, hb3, Instr.sureAddr, hrun, hs, hne, add_plain]
            · cases h0
          · cases hd
        · cases hd
      · cases hd
    · simp only at hd
      have hs := run_sizeOf' (w := w) hT hei
      have hund2 : ∀ n e', TypeDesc.slice e ≠ .array n e' := by simp
      split at hd
      · rename_i sz' xs p hxe
        cases hsz : Nat.beq sz' ei.sz with
        | false => simp [hsz] at hd
        | true =>
          have hsz := beq_of hsz
          subst hsz
          simp only [show Nat.beq ei.sz ei.sz = true from Nat.beq_refl _, cond_true] at hd
          split at hd
          · rename_i q1 q2 hb
            injection hd with hd; subst hd
            rw [hxe] at hx
            obtain ⟨r1, r2, r3, r4, r5, _⟩ := bounds_inv hb
            have hrun0 : ∀ ad cap, a.eval x = .slice (some ad) xs.length cap → xs.length ≤ cap →
                (execOp a.eval o).run c.P w = .ok (.value (.slice (some (if m.getD cap = q1 then ad else ad.add (q1 * ei.sz))) (q2 - q1) (m.getD cap - q1))) w := fun ad cap hv hcap => by
              have hrun := run_bounds (P := c.P) (w := w) true hb hcap b1 b2 b3
              by_cases hq : m.getD cap = q1
              · simp [execOp, ho, Instr.sliceAt, Instr.slice, hv, run_underlying hund, hrun, hs, hq]
              · simp [execOp, ho, Instr.sliceAt, Instr.slice, hv, run_underlying hund, hrun, hs, hq]
            have hnil0 : a.eval x = .slice none 0 0 → xs = [] → (execOp a.eval o).run c.P w = .ok (.value (.slice none 0 0)) w ∧ (xs.take q2).drop q1 = [] := fun hv hx0 => by
              subst hx0
              have hrun := run_bounds (P := c.P) (w := w) true (cap := 0) hb (Nat.le_refl _) b1 b2 b3
              simp only [List.length_nil] at r2 r4 r5 hrun
              have z1 : q1 = 0 := by omega
              have z2 : q2 = 0 := by omega
              have z3 : m.getD 0 = 0 := by omega
              rw [z3, z1, z2] at hrun
              refine ⟨?_, by simp⟩
              simp [execOp, ho, Instr.sliceAt, Instr.slice, hv, run_underlying hund, hrun, hs]
            -- what is tight, with nothing cut behind
            have key : ∀ (q : Perm), (q = .none ∨ q = .exact ∧ ((∃ n, m = some n ∧ n = q2) ∨ (m = none ∧ q2 = xs.length ∧ Rep g.bx g.s w (.vec ei.sz xs .exact) (a.eval x)))) →
                ∃ v, (execOp a.eval o).run c.P w = .ok (.value v) w ∧ Rep g.bx g.s w (.vec ei.sz ((xs.take q2).drop q1) q) v := fun q hq => by
              have hr := hx.vec_inv
              rcases hr.vec_shape with ⟨hv, hx0⟩ | ⟨ad, cap, hv, hcap, _⟩
              · obtain ⟨h1, h2⟩ := hnil0 hv hx0
                exact ⟨_, h1, by rw [h2]; exact .nilv _ _ (hq.imp id And.left)⟩
              · rw [hv] at hr
                rcases hq with rfl | ⟨rfl, ⟨n, rfl, rfl⟩ | ⟨rfl, rfl, hex⟩⟩
                · exact ⟨_, hrun0 ad cap hv hcap, rep_cut hr r3 (by omega) _ (by cases m <;> simp_all <;> omega) .none (.inl rfl)⟩
                · exact ⟨_, hrun0 ad cap hv hcap, rep_cut hr r3 (by simp at r5; omega) _ (by simp) .exact (.inr ⟨rfl, rfl⟩)⟩
                · rw [hv] at hex
                  obtain ⟨h1, _⟩ | ⟨ad', cap', h1, _, h3⟩ := hex.vec_shape
                  · cases h1
                  · injection h1 with h1 h4 h5
                    have := h3 rfl
                    subst h5; subst this
                    exact ⟨_, hrun0 ad _ hv (Nat.le_refl _), rep_cut hr r3 (Nat.le_refl _) _ (by simp) .exact (.inr ⟨rfl, rfl⟩)⟩
            cases hcp : cutP p h m q1 q2 with
            | none =>
              obtain ⟨v, h1, h2⟩ := key .none (.inl rfl)
              exact .pure h1 hf (.clean _ _ h2)
            | fresh =>
              obtain ⟨v, h1, h2⟩ := key .none (.inl rfl)
              exact .pure h1 hf (.fresh _ _ _ h2)
            | box =>
              obtain ⟨v, h1, h2⟩ := key .none (.inl rfl)
              exact .pure h1 hf (.boxr _ _ _ h2)
            | real =>
              exfalso
              unfold cutP at hcp
              repeat' split at hcp
              all_goals cases hcp
              all_goals simp_all
            | exact =>
              have hq : (∃ n, m = some n ∧ n = q2) ∨ (m = none ∧ q2 = xs.length ∧ p = .exact) := by
                unfold cutP at hcp
                cases m with
                | some n =>
                  simp only at hcp
                  by_cases hq : q2 = n
                  · exact .inl ⟨n, rfl, hq.symm⟩
                  · rw [if_neg hq] at hcp; cases hcp
                | none =>
                  simp only at hcp
                  cases h with
                  | some _ => cases hcp
                  | none =>
                    simp only at hcp
                    cases p with
                    | exact => exact .inr ⟨rfl, by simpa using r2.symm, rfl⟩
                    | own i => simp only at hcp; split at hcp <;> cases hcp
                    | _ => cases hcp
              obtain ⟨v, h1, h2⟩ := key .exact (.inr ⟨rfl, hq.imp id (fun ⟨h1, h2, h3⟩ => ⟨h1, h2, by subst h3; exact hx.exact_inv⟩)⟩)
              exact .pure h1 hf (.clean _ _ h2)
            | own i =>
              have hq : m = none ∧ q2 = xs.length ∧ q1 = 0 ∧ p = .own i := by
                unfold cutP at hcp
                cases m with
                | some n => simp only at hcp; split at hcp <;> cases hcp
                | none =>
                  simp only at hcp
                  cases h with
                  | some _ => cases hcp
                  | none =>
                    simp only at hcp
                    cases p with
                    | own j =>
                      simp only at hcp
                      split at hcp
                      · rename_i h0; injection hcp with hcp; subst hcp; exact ⟨rfl, by simpa using r2.symm, h0, rfl⟩
                      · cases hcp
                    | _ => cases hcp
              obtain ⟨rfl, rfl, rfl, rfl⟩ := hq
              have hx' := hx
              obtain ⟨hi, hcl, ⟨rfl, hex⟩ | ⟨how, cap, hv, hen, hbs⟩⟩ := hx.own_inv
              · obtain ⟨v, h1, h2⟩ := key .exact (.inr ⟨rfl, .inr ⟨rfl, rfl, hex⟩⟩)
                have e0 : (List.take ([] : List D).length ([] : List D)).drop 0 = [] := rfl
                rw [e0] at h2 ⊢
                exact .pure h1 hf (.tight i _ _ hi h2)
              · rw [hv] at hcl hx'
                have hcap : xs.length ≤ cap := by
                  rcases hcl.vec_shape with ⟨h, _⟩ | ⟨_, _, h, h2, _⟩
                  · cases h
                  · injection h with _ _ h; subst h; exact h2
                have := hrun0 _ _ hv hcap
                refine .pure this hf ?_
                simp only [Option.getD_none, List.take_length, List.drop_zero, Nat.sub_zero, Nat.zero_mul]
                have e0 : (⟨g.tk i, 0, none⟩ : Addr).add 0 = ⟨g.tk i, 0, none⟩ := rfl
                rw [e0, ite_self]
                exact hx'
          · cases hd
      · rename_i i off len sz' hxe
        cases hsz : Nat.beq sz' ei.sz with
        | false => simp [hsz] at hd
        | true =>
          have hsz := beq_of hsz
          subst hsz
          simp only [show Nat.beq ei.sz ei.sz = true from Nat.beq_refl _, cond_true] at hd
          split at hd
          · rename_i q1 q2 hb
            split at hd
            · rename_i hlt
              injection hd with hd; subst hd
              rw [hxe] at hx
              obtain ⟨cap, hv, hi, hcap⟩ := hx.lsl_inv
              rcases b3 with ⟨_, hb3⟩ | ⟨_, _, h0, _⟩
              · have hrun := run_bounds (P := c.P) (w := w) true (cap := cap) hb hcap b1 b2 (.inl ⟨rfl, rfl⟩)
                obtain ⟨_, _, r1, r2, r3, _⟩ := bounds_inv hb
                simp only [Option.getD_none] at r2 r3 hrun
                have hne : ¬ cap = q1 := by omega
                refine .pure (v := .slice (some ⟨g.loc i, off + q1 * ei.sz, none⟩) (q2 - q1) (cap - q1)) ?_ hf (.lsl _ _ _ _ _ hi (by omega))
                simp [execOp, ho, Instr.sliceAt, Instr.slice, hv, run_underlying hund, hb3, hrun, hs, hne, add_plain]
              · cases h0
            · cases hd
          · cases hd
      · cases hd

end Go.Proofs.YtbbbhalmlboapaaDoor.V

/-
Parts of values, elements of texts, interfaces; what is built; conversions; lengths, the greatest and the least.
-/
namespace Go.Proofs.YtbbbhalmlboapaaDoor.V
set_option linter.unusedSimpArgs false
set_option linter.unusedVariables false
open Go Go.RowKit

variable {c : Cx} {g : Gh} {nL : Nat → Prop} {nT : Nat} {w : World}

theorem run_part_of {P : Program} {T : Tab} (hT : TabOk P T) {u : TypeId} {ui : TI} (ht : T u = some ui) {ds : List D} {vs : Array Value} {off : Nat} {d : D} (hl : ds.length = vs.size)
    (hr : ∀ i e, ds[i]? = some e → RepF c g nL nT w e (vs.getD i Go.undef)) (hd : partV ui ds off = some d) : ∃ v, (part u vs off).run P w = .ok v w ∧ RepF c g nL nT w d v := by
  unfold partV at hd
  cases hs : (ui.agg || Nat.beq ui.sz 1) with
  | false => simp [hs] at hd
  | true =>
    simp only [hs, cond_true] at hd
    unfold loadC at hd
    split at hd
    · rename_i hfit
      rcases Bool.eq_false_or_eq_true ui.agg with ha | ha
      · simp only [ha, cond_true, Option.some.injEq] at hd
        subst hd
        have hrun := run_part_agg hT ht vs.toList off ha w
        simp only [Array.toArray_toList, valOf, ha, if_true] at hrun
        refine ⟨_, hrun, .agg _ _ (by simp; omega) (fun i e hi => ?_)⟩
        have hlt := lt_of_get hi
        simp at hlt
        rw [List.getElem?_take_of_lt (by omega), List.getElem?_drop] at hi
        have := hr _ _ hi
        have h1 : i < ui.sz := by omega
        have h2 : off + i < vs.size := by omega
        have h3 : i < min ui.sz (vs.size - off) := by omega
        simpa [Array.getD, h1, h2, h3, List.getElem?_take_of_lt] using this
      · simp only [ha, cond_false] at hd
        have hlt := lt_of_get hd
        have hv : vs[off]? = some (vs.getD off Go.undef) := getD_some (by omega)
        exact ⟨_, by have := run_part_leaf hT ht vs.toList off ha (vs.getD off Go.undef) (by simpa using hv) w; simpa using this, hr _ _ hd⟩
    · cases hd

theorem op_field {T : Tab} (hT : TabOk c.P T) {st : St} {a : Act} {o : Oper} {t : TypeId} {x : Operand} {f off : Nat} {u : TypeId} {ti ui : TI} {fs : List (Nat × TypeId)} {ds : List D} {d : D} (ho : o.op = .field t x f)
    (hf : FS c g st.L st.τ st.B w) (he : EnvR c g (dom st.L) st.τ.length w st.ρ a) (ht : T t = some ti) (htd : ti.d = .struct fs) (hfs : fs[f]? = some (off, u)) (hu : T u = some ui)
    (hx : eval st.ρ x = .agg ds) (hd : partV ui ds off = some d) : OpOk c g st w a o d st := by
  have hr := he.eval x
  rw [hx] at hr
  obtain ⟨vs, hv, hl, hr⟩ := hr.agg_inv
  obtain ⟨fields, fd, hund, hfd, h1, h2⟩ := field_of (desc_of hT ht htd) hfs
  obtain ⟨v, hrun, hrv⟩ := run_part_of hT hu hl hr hd
  refine .pure (v := v) ?_ hf hrv
  simp [execOp, ho, Instr.field, hv, run_underlying hund, hfd, asAgg, h1, h2, hrun]

theorem op_index_str {T : Tab} (hT : TabOk c.P T) {st : St} {a : Act} {o : Oper} {t : TypeId} {x i : Operand} {j : Nat} {ti : TI} {s : List UInt8} {b : UInt8} (ho : o.op = .index t x i)
    (hf : FS c g st.L st.τ st.B w) (he : EnvR c g (dom st.L) st.τ.length w st.ρ a) (ht : T t = some ti) (htd : ti.d = .str) (hj : natV (eval st.ρ i) = some j)
    (hx : eval st.ρ x = .str s) (hb : s[j]? = some b) : OpOk c g st w a o (byteD b) st := by
  have hr := he.eval x
  rw [hx] at hr
  obtain ⟨by_, hv, hby⟩ := hr.str_inv
  obtain ⟨k, n, _, hi, h0, hn⟩ := natV_inv hj (he.eval i)
  have hund : c.P.underlying t = some .string := desc_of hT ht htd
  have hlt := lt_of_get hb
  have hlt2 : n.toNat < by_.size := by rw [← hby] at hlt; simp at hlt; omega
  have hget : by_[n.toNat]? = some b := by
    rw [getElem?_pos by_ n.toNat hlt2]
    have : by_.data.toList[n.toNat]? = some b := by rw [hby, hn]; exact hb
    have h2 : n.toNat < by_.data.size := hlt2
    rw [Array.getElem?_toList, Array.getElem?_eq_getElem h2] at this
    exact this
  refine .pure (v := .int .u8 b.toNat) ?_ hf (.clean _ _ (.int _ _))
  simp [execOp, ho, Instr.index, hv, hi, asIntOf, run_underlying hund, h0, hget]

theorem op_index_arr {T : Tab} (hT : TabOk c.P T) {st : St} {a : Act} {o : Oper} {t : TypeId} {x i : Operand} {j n : Nat} {e : TypeId} {ti ei : TI} {ds : List D} {d : D} (ho : o.op = .index t x i)
    (hf : FS c g st.L st.τ st.B w) (he : EnvR c g (dom st.L) st.τ.length w st.ρ a) (ht : T t = some ti) (htd : ti.d = .array n e) (hei : T e = some ei) (hj : natV (eval st.ρ i) = some j) (hjn : j < n)
    (hx : eval st.ρ x = .agg ds) (hd : partV ei ds (j * ei.sz) = some d) : OpOk c g st w a o d st := by
  have hr := he.eval x
  rw [hx] at hr
  obtain ⟨vs, hv, hl, hr⟩ := hr.agg_inv
  obtain ⟨k, z, _, hi, h0, hn⟩ := natV_inv hj (he.eval i)
  have hund : c.P.underlying t = some (.array n e) := desc_of hT ht htd
  obtain ⟨v, hrun, hrv⟩ := run_part_of hT hei hl hr hd
  refine .pure (v := v) ?_ hf hrv
  have hb : 0 ≤ z ∧ z < (n : Int) := ⟨h0, by omega⟩
  have hs := run_sizeOf' (w := w) hT hei
  simp [execOp, ho, Instr.index, hv, hi, asIntOf, run_underlying hund, hb, hs, hn, hrun]

theorem op_nilCheck {st : St} {a : Act} {o : Oper} {x : Operand} {d : D} (ho : o.op = .nilCheck x) (hf : FS c g st.L st.τ st.B w) (he : EnvR c g (dom st.L) st.τ.length w st.ρ a)
    (hx : eval st.ρ x = d) (hd : (∃ i off, d = .lptr i off) ∨ (∃ b off, d = .bptr b off) ∨ ∃ ds, d = .fptr ds) : OpOk c g st w a o d st := by
  have hr := he.eval x
  rw [hx] at hr
  have hv : ∃ ad, a.eval x = .pointer (some ad) := by
    rcases hd with ⟨i, off, rfl⟩ | ⟨b, off, rfl⟩ | ⟨ds, rfl⟩
    · exact ⟨_, hr.lptr_inv.1⟩
    · obtain ⟨_, _, hv⟩ := hr.bptr_inv; exact ⟨_, hv⟩
    · exact hr.fptr_inv.fptr_val
  obtain ⟨ad, hv⟩ := hv
  refine .pure (v := a.eval x) ?_ hf hr
  simp [execOp, ho, hv]

theorem flat_clean {d : D} (hd : d.flat = true) {v : Value} (h : RepF c g nL nT w d v) : Rep g.bx g.s w d v := by
  cases h with
  | clean _ _ h => exact h
  | _ => simp [D.flat] at hd

/-- A function, and what it holds. -/
theorem op_makeFunc {st : St} {a : Act} {o : Oper} {f : FuncId} {first caps : Array Operand} (ho : o.op = .makeFunc (.func f) first caps) (hfi : first.toList = []) (hf : FS c g st.L st.τ st.B w)
    (he : EnvR c g (dom st.L) st.τ.length w st.ρ a) (hc : (capsV st.ρ caps.toList).all D.flat = true) : OpOk c g st w a o (.fn f (capsV st.ρ caps.toList)) st := by
  have e0 : first = #[] := by apply Array.ext'; simpa using hfi
  refine .pure (v := .func (.func f) #[] (caps.map a.eval)) ?_ hf (.clean _ _ (.fn f _ _ (by simp [capsV]) (fun i d hi => ?_)))
  · subst e0
    simp [execOp, ho, Instr.makeFunc]
  · have hm := List.mem_of_getElem? hi
    have hfl := List.all_eq_true.1 hc d hm
    unfold capsV at hi
    rw [List.getElem?_map] at hi
    cases hq : caps.toList[i]? with
    | none => rw [hq] at hi; cases hi
    | some x =>
      rw [hq] at hi
      injection hi with hi; subst hi
      have : (caps.map a.eval).getD i Go.undef = a.eval x := by
        have hq' : caps[i]? = some x := by simpa using hq
        simp [Array.getD_eq_getD_getElem?, hq']
      rw [this]
      exact flat_clean hfl (he.eval x)

theorem op_makeInterface {T : Tab} (hT : TabOk c.P T) {st : St} {a : Act} {o : Oper} {t : TypeId} {x : Operand} {ti : TI} (ho : o.op = .makeInterface t x) (hf : FS c g st.L st.τ st.B w)
    (he : EnvR c g (dom st.L) st.τ.length w st.ρ a) (ht : T t = some ti) (h1 : ti.d ≠ .iface) (h2 : ti.d ≠ .other) {T' : Tab} (hg : (evalT T' t st.ρ x).global = true) : OpOk c g st w a o (.iface t (evalT T' t st.ρ x)) st := by
  have hr := global_clean hg (he.evalT x)
  refine .pure (v := .iface t (a.eval x)) ?_ hf (.clean _ _ (.iface _ _ _ hr))
  have hd := hT.desc t ti ht
  cases htd : ti.d with
  | iface => exact absurd htd h1
  | other => exact absurd htd h2
  | struct fs => rw [htd] at hd; obtain ⟨fields, hu, _⟩ := hd; simp [execOp, ho, Instr.makeInterface, run_underlying hu]
  | func => rw [htd] at hd; obtain ⟨_, _, _, hu⟩ := hd; simp [execOp, ho, Instr.makeInterface, run_underlying hu]
  | _ => rw [htd] at hd; simp only [DescOk] at hd; simp [execOp, ho, Instr.makeInterface, run_underlying hd]

/-! ### What is built -/
theorem foldl_fill (off : Nat) : ∀ (l : List Value) (k : Nat) (cells : Array Value) (j : Nat), off + k + l.length ≤ cells.size →
    ((l.zipIdx k).foldl (fun cs (c : Value × Nat) => cs.setIfInBounds (off + c.2) c.1) cells)[j]? = if off + k ≤ j ∧ j < off + k + l.length then l[j - (off + k)]? else cells[j]?
  | [], k, cells, j, _ => by simp; omega
  | v :: l, k, cells, j, h => by
    simp only [List.zipIdx_cons, List.foldl_cons, List.length_cons] at h ⊢
    rw [foldl_fill off l (k + 1) _ j (by simp; omega)]
    by_cases h1 : off + (k + 1) ≤ j ∧ j < off + (k + 1) + l.length
    · rw [if_pos h1, if_pos (by omega), show j - (off + k) = (j - (off + (k + 1))) + 1 by omega, List.getElem?_cons_succ]
    · rw [if_neg h1]
      by_cases h2 : j = off + k
      · subst h2
        rw [if_pos (by omega)]
        simp [Array.getElem?_setIfInBounds]; omega
      · rw [if_neg (by omega), Array.getElem?_setIfInBounds_ne (by omega)]

theorem foldl_fill_size (off : Nat) : ∀ (l : List Value) (k : Nat) (cells : Array Value), ((l.zipIdx k).foldl (fun cs (c : Value × Nat) => cs.setIfInBounds (off + c.2) c.1) cells).size = cells.size
  | [], _, _ => rfl
  | v :: l, k, cells => by
    simp only [List.zipIdx_cons, List.foldl_cons]
    rw [foldl_fill_size off l (k + 1)]; simp

theorem fill_spec (R : D → Value → Prop) (place place' : Nat → Option (Nat × Nat)) (hpl : ∀ i p, place i = some p → place' i = some p) : ∀ (parts : List (Nat × D)) (vals : List (Nat × Value)) (ds : List D) (cells : Array Value) (es : List D),
    parts.length = vals.length → (∀ (i k : Nat) (d : D), parts[i]? = some (k, d) → ∃ v : Value, vals[i]? = some (k, v) ∧ (d.solid → d.cells.length = v.cells.size ∧ ∀ (j : Nat) (e : D), d.cells[j]? = some e → R e (v.cells.getD j Go.undef))) →
    ds.length = cells.size → (∀ (j : Nat) (d : D), ds[j]? = some d → R d (cells.getD j Go.undef)) → fillV place ds parts = some es →
    ∃ cs : Array Value, Instr.fill place' cells vals = some cs ∧ es.length = cs.size ∧ ∀ (j : Nat) (d : D), es[j]? = some d → R d (cs.getD j Go.undef)
  | [], vals, ds, cells, es, hl, _, hlen, hr, h => by
    cases vals with
    | nil => simp [fillV] at h; subst h; exact ⟨cells, rfl, hlen, hr⟩
    | cons _ _ => simp at hl
  | (k, d) :: parts, vals, ds, cells, es, hl, hp, hlen, hr, h => by
    cases vals with
    | nil => simp at hl
    | cons v vals =>
      obtain ⟨v0, hv, hcell⟩ := hp 0 k d rfl
      simp at hv; subst hv
      simp only [fillV] at h
      split at h
      · rename_i off size hplace
        cases hc : (Nat.beq d.cells.length size && d.whole) with
        | false => simp [hc] at h
        | true =>
          simp only [hc, cond_true] at h
          simp only [Bool.and_eq_true] at hc
          have hsz := beq_of hc.1
          have hsol : d.solid := by cases d <;> first | trivial | (exact absurd hc.2 (by simp [D.whole]))
          obtain ⟨e1, e2⟩ := hcell hsol
          split at h
          · rename_i hfit
            have hmatch : (v0.cells.size ≠ size || off + v0.cells.size > cells.size) = false := by simp; omega
            have hcs : ∀ j : Nat, (v0.cells.zipIdx.foldl (fun cs (c, j) => cs.setIfInBounds (off + j) c) cells)[j]? = if off ≤ j ∧ j < off + size then v0.cells[j - off]? else cells[j]? := fun j => by
              have := foldl_fill off v0.cells.toList 0 cells j (by simp; omega)
              rw [← Array.foldl_toList]
              simp only [Array.toList_zipIdx]
              rw [this]; simp; rw [← e1, hsz]
            have hcz : (v0.cells.zipIdx.foldl (fun cs (c, j) => cs.setIfInBounds (off + j) c) cells).size = cells.size := by
              have := foldl_fill_size off v0.cells.toList 0 cells
              rw [← Array.foldl_toList]
              simp only [Array.toList_zipIdx]
              exact this
            obtain ⟨cs, h1, h2, h3⟩ := fill_spec R place place' hpl parts vals (setC ds off d.cells) _ es (by simpa using hl) (fun i k d hi => by have := hp (i + 1) k d (by simpa using hi); simpa using this)
              (by rw [hcz]; unfold setC; simp; omega) (fun j e hj => by
                rw [setC_get ds off _ (by omega) j] at hj
                have hg := hcs j
                by_cases hin : off ≤ j ∧ j < off + d.cells.length
                · rw [if_pos hin] at hj
                  rw [if_pos (by omega)] at hg
                  have := e2 _ _ hj
                  have hlt := lt_of_get hj
                  have hv0 := getD_some (vs := v0.cells) (i := j - off) (by omega)
                  rw [hv0] at hg
                  simp only [Array.getD_eq_getD_getElem?, hg, Option.getD_some]
                  simpa [Array.getD_eq_getD_getElem?] using this
                · rw [if_neg hin] at hj
                  rw [if_neg (by omega)] at hg
                  have := hr _ _ hj
                  simp only [Array.getD_eq_getD_getElem?, hg]
                  simpa [Array.getD_eq_getD_getElem?] using this) h
            refine ⟨cs, ?_, h2, h3⟩
            simp only [Instr.fill, hpl _ _ hplace]
            rw [if_neg (by simp at hmatch ⊢; omega)]
            exact h1
          · cases h
      · cases h

end Go.Proofs.YtbbbhalmlboapaaDoor.V

/-
What is built: structs, arrays, rows.
-/
namespace Go.Proofs.YtbbbhalmlboapaaDoor.V
set_option linter.unusedSimpArgs false
set_option linter.unusedVariables false
open Go Go.RowKit

variable {c : Cx} {g : Gh} {nL : Nat → Prop} {nT : Nat} {w : World}

theorem places_some {P : Program} : ∀ (fs : List Field), (∀ f, f ∈ fs → ∃ i, P.info? f.type = some i) →
    ∃ places, fs.mapM (fun f => (P.info? f.type).map fun i => (f.offset, i.size)) = some places ∧ ∀ (k : Nat) (f : Field) (i : TypeInfo), fs[k]? = some f → P.info? f.type = some i → places[k]? = some (f.offset, i.size)
  | [], _ => ⟨[], by simp, fun k f i hk => by simp at hk⟩
  | f :: fs, h => by
    obtain ⟨i, hi⟩ := h f (by simp)
    obtain ⟨places, h1, h2⟩ := places_some fs (fun x hx => h x (by simp [hx]))
    refine ⟨(f.offset, i.size) :: places, ?_, fun k f' i' hk hi' => ?_⟩
    · simp [List.mapM_cons, hi, h1]
    · cases k with
      | zero => simp at hk; subst hk; rw [hi] at hi'; injection hi' with e; subst e; rfl
      | succ k => simp at hk ⊢; exact h2 k f' i' hk hi'

theorem partsV_spec {T : Tab} {ty : Nat → TypeId} {st : St} {a : Act} (he : EnvR c g nL nT w st.ρ a) : ∀ (l : List (Nat × Operand)),
    (partsV T ty st.ρ l).length = (l.map fun (i, x) => (i, a.eval x)).length ∧
      ∀ (i k : Nat) (d : D), (partsV T ty st.ρ l)[i]? = some (k, d) → ∃ v : Value, (l.map fun (i, x) => (i, a.eval x))[i]? = some (k, v) ∧ RepF c g nL nT w d v
  | [] => ⟨rfl, fun i k d h => by simp [partsV] at h⟩
  | (j, x) :: l => by
    obtain ⟨h1, h2⟩ := partsV_spec (T := T) (ty := ty) he l
    refine ⟨by simp [partsV] at h1 ⊢; exact h1, fun i k d h => ?_⟩
    cases i with
    | zero => simp [partsV] at h; obtain ⟨rfl, rfl⟩ := h; exact ⟨_, by simp, he.evalT x⟩
    | succ i => simp [partsV] at h; obtain ⟨v, hv, hr⟩ := h2 i k d h; exact ⟨v, by simpa using hv, hr⟩

theorem op_build {T : Tab} (hT : TabOk c.P T) {st : St} {a : Act} {o : Oper} {t : TypeId} {parts : Array (Nat × Operand)} {d : D} (ho : o.op = .build t parts) (hf : FS c g st.L st.τ st.B w)
    (he : EnvR c g (dom st.L) st.τ.length w st.ρ a) {ty : Nat → TypeId} (hd : buildV T t (partsV T ty st.ρ parts.toList) = some d) : OpOk c g st w a o d st := by
  obtain ⟨hlen, hparts⟩ := partsV_spec (T := T) (ty := ty) he parts.toList
  have key : ∀ (place place' : Nat → Option (Nat × Nat)) (ti : TI) (it : TypeInfo) (z : Value) (ds : List D), (∀ i p, place i = some p → place' i = some p) → Rep g.bx g.s w ti.zero z →
      fillV place ti.zero.cells (partsV T ty st.ρ parts.toList) = some ds →
      ∃ cs, Instr.fill place' z.cells (parts.map fun (i, x) => (i, a.eval x)).toList = some cs ∧ RepF c g (dom st.L) st.τ.length w (.agg ds) (.agg cs) := by
    intro place place' ti it z ds hpl hz hfill
    obtain ⟨cs, h1, h2, h3⟩ := fill_spec (RepF c g (dom st.L) st.τ.length w) place place' hpl _ (parts.toList.map fun (i, x) => (i, a.eval x)) _ z.cells ds hlen
      (fun i k d hi => by obtain ⟨v, hv, hr⟩ := hparts i k d hi; exact ⟨v, hv, fun hs => hr.cells_of hs⟩) hz.cells_len
      (fun j d hj => by obtain ⟨u, hu, hr⟩ := hz.cells_at hj; simp [Array.getD_eq_getD_getElem?, hu]; exact .clean _ _ hr) hfill
    exact ⟨cs, by rw [Array.toList_map]; exact h1, .agg _ _ h2 h3⟩
  unfold buildV at hd
  split at hd
  · rename_i ti ht
    obtain ⟨it, z, hit, hsz, hby, hz, hrz⟩ := hT.info t ti ht
    split at hd
    · rename_i fs htd
      obtain ⟨fields, hund, hfs, _⟩ := desc_of hT ht htd
      have hall : ∀ f, f ∈ fields.toList → ∃ i, c.P.info? f.type = some i := fun f hf =>
        hT.flds t ti fs ht htd (f.offset, f.type) (by rw [← hfs]; exact List.mem_map_of_mem hf)
      obtain ⟨places, hp1, hp2⟩ := places_some fields.toList hall
      split at hd
      · rename_i ds hfill
        injection hd with hd; subst hd
        obtain ⟨cs, h1, h2⟩ := key _ (places.toArray[·]?) ti it z ds (fun i p hp => by
          split at hp
          · rename_i off u hfo
            split at hp
            · rename_i ui hu
              injection hp with hp; subst hp
              rw [← hfs] at hfo
              simp only [List.getElem?_map, Option.map_eq_some_iff] at hfo
              obtain ⟨f, hf1, hf2⟩ := hfo
              injection hf2 with e1 e2; subst e1; subst e2
              obtain ⟨iu, zu, hiu, hus, _⟩ := hT.info _ _ hu
              have := hp2 i f iu hf1 hiu
              simp [this, hus]
            · cases hp
          · cases hp) (hrz _ _ _) hfill
        have hb : c.P.built t (parts.map fun (i, x) => (i, a.eval x)).toList = some cs := by
          simp only [Program.built, hit, hund, hz, hp1]; exact h1
        refine .pure (v := .agg cs) ?_ hf h2
        simp [execOp, ho, run_build w t _ cs hb]
      · cases hd
    · rename_i n e htd
      have hund : c.P.underlying t = some (.array n e) := desc_of hT ht htd
      split at hd
      · rename_i ei hei
        obtain ⟨ie, ze, hie, hes, _⟩ := hT.info e ei hei
        split at hd
        · rename_i ds hfill
          injection hd with hd; subst hd
          obtain ⟨cs, h1, h2⟩ := key _ (fun i => some (i * ie.size, ie.size)) ti it z ds (fun i p hp => by rw [hes]; exact hp) (hrz _ _ _) hfill
          have hb : c.P.built t (parts.map fun (i, x) => (i, a.eval x)).toList = some cs := by
            simp only [Program.built, hit, hund, hz, hie]; exact h1
          refine .pure (v := .agg cs) ?_ hf h2
          simp [execOp, ho, run_build w t _ cs hb]
        · cases hd
      · cases hd
    · cases hd
  · cases hd

/-! ### What is told to others -/
theorem demoteC_whole {d e : D} (h : d.demoteC = some e) : e.whole = true ∧ e.cells.length = d.cells.length := by
  cases d <;> simp only [D.demoteC] at h
  case agg ds =>
    split at h
    · rename_i es hes
      injection h with h; subst h
      exact ⟨rfl, (demoteL_spec hes).1.symm⟩
    · cases h
  all_goals exact demote_whole h

theorem global_leaf {d : D} (h : d.global = true) : d.leaf = true := by cases d <;> simp_all [D.global, D.leaf]

theorem demote_leaf {d e : D} (h : d.demote = some e) : e.leaf = true := by
  cases d <;> simp only [D.demote] at h
  case vec sz xs p => injection h with h; subst h; rfl
  all_goals
    cases hg : D.global _ with
    | false => rw [hg] at h; simp at h
    | true => rw [hg] at h; simp at h; subst h; exact global_leaf hg

theorem leaf_all {d : D} (h : d.leaf = true) : d.cells.all D.leaf = true := by cases d <;> simp_all [D.cells, D.leaf]

theorem demoteC_leaf {d e : D} (h : d.demoteC = some e) : e.cells.all D.leaf = true := by
  cases d <;> simp only [D.demoteC] at h
  case agg ds =>
    split at h
    · rename_i es hes
      injection h with h; subst h
      refine List.all_eq_true.2 (fun e he => ?_)
      obtain ⟨i, hi⟩ := List.getElem?_of_mem he
      obtain ⟨d, _, h4⟩ := (demoteL_spec hes).2 i e hi
      exact demote_leaf h4
    · cases h
  all_goals exact leaf_all (demote_leaf h)

theorem demoteC_clean {d e : D} (h : d.demoteC = some e) {v : Value} (hr : RepF c g nL nT w d v) : Rep g.bx g.s w e v := by
  cases d <;> simp only [D.demoteC] at h
  case agg ds =>
    split at h
    · rename_i es hes
      injection h with h; subst h
      obtain ⟨h1, h2⟩ := demoteL_spec hes
      obtain ⟨vs, rfl, hl, hr⟩ := hr.agg_inv
      refine .agg _ _ (h1.symm.trans hl) (fun i e hi => ?_)
      obtain ⟨d, h3, h4⟩ := h2 i e hi
      exact demote_clean h4 (hr i d h3)
    · cases h
  all_goals exact demote_clean h hr

theorem okParts_spec {sz : Nat} : ∀ {l : List (Nat × D)} {ps : List (Nat × D)}, okParts sz l = some ps → l.length = ps.length ∧
    ∀ (i k : Nat) (e : D), ps[i]? = some (k, e) → e.cells.length = sz ∧ ∃ d, l[i]? = some (k, d) ∧ d.demoteC = some e
  | [], ps, h => by simp [okParts] at h; subst h; exact ⟨rfl, fun i k e hi => by simp at hi⟩
  | (j, d) :: l, ps, h => by
    simp only [okParts] at h
    split at h
    · rename_i y hy
      cases hb : Nat.beq y.cells.length sz with
      | false => simp [hb] at h
      | true =>
        simp only [hb, cond_true] at h
        split at h
        · rename_i q hq
          injection h with h; subst h
          obtain ⟨h1, h2⟩ := okParts_spec hq
          refine ⟨by simp [h1], fun i k e hi => ?_⟩
          cases i with
          | zero => simp at hi; obtain ⟨rfl, rfl⟩ := hi; exact ⟨beq_of hb, d, rfl, hy⟩
          | succ i => simp at hi; obtain ⟨h3, d', h4, h5⟩ := h2 i k e hi; exact ⟨h3, d', by simpa using h4, h5⟩
        · cases h
    · cases h

theorem cellsL_set {sz : Nat} : ∀ {xs : List D} {i : Nat} {d : D}, (∀ x, x ∈ xs → x.cells.length = sz) → d.cells.length = sz → i < xs.length → cellsL (xs.set i d) = setC (cellsL xs) (i * sz) d.cells
  | [], i, d, _, _, h => by simp at h
  | x :: xs, 0, d, hx, hd, _ => by
    have := hx x (by simp)
    simp [cellsL, setC, hd, ← this]
  | x :: xs, i + 1, d, hx, hd, h => by
    have h0 := hx x (by simp)
    have ih := cellsL_set (sz := sz) (xs := xs) (i := i) (d := d) (fun y hy => hx y (by simp [hy])) hd (by simpa using h)
    simp only [List.set_cons_succ, cellsL, List.map_cons, List.flatten_cons] at ih ⊢
    rw [ih]
    have e : (i + 1) * sz = x.cells.length + i * sz := by rw [h0, Nat.add_mul]; omega
    simp only [setC, e, List.take_append, Nat.add_assoc, List.drop_append, List.append_assoc]
    simp [List.take_of_length_le]

theorem fillL_fillV {sz : Nat} : ∀ {ps : List (Nat × D)} {xs ys : List D}, OkL sz xs → (∀ p, p ∈ ps → (p.2.cells.length = sz ∧ p.2.cells.all D.leaf = true) ∧ p.2.whole = true) → fillL xs ps = some ys →
    fillV (fun i => some (i * sz, sz)) (cellsL xs) ps = some (cellsL ys) ∧ ys.length = xs.length ∧ OkL sz ys
  | [], xs, ys, hx, _, h => by simp [fillL] at h; subst h; exact ⟨rfl, rfl, hx⟩
  | (i, d) :: ps, xs, ys, hx, hp, h => by
    simp only [fillL] at h
    split at h
    · rename_i hi
      obtain ⟨hd1, hd2⟩ := hp (i, d) (by simp)
      have hx' : OkL sz (xs.set i d) := fun x hx' => by
        rcases List.mem_or_eq_of_mem_set hx' with h | h
        · exact hx x h
        · subst h; exact hd1
      obtain ⟨h1, h2, h3⟩ := fillL_fillV hx' (fun p hp' => hp p (by simp [hp'])) h
      refine ⟨?_, by rw [h2]; simp, h3⟩
      have hl := cellsL_length hx.len
      have hfit : i * sz + sz ≤ (cellsL xs).length := by
        rw [hl]; have := Nat.mul_le_mul_right sz (show i + 1 ≤ xs.length by omega); rw [Nat.add_mul] at this; omega
      simp only [fillV]
      have hb : (Nat.beq d.cells.length sz && d.whole) = true := by simp [hd1.1, hd2]
      rw [hb]
      simp only [cond_true]
      rw [if_pos hfit, ← cellsL_set hx.len hd1.1 hi]
      exact h1
    · cases h

theorem zero_cells {sz : Nat} {zc : List D} (h : zc.length = sz) (hp : 0 < sz) {j : Nat} {d : D} : ∀ {n : Nat}, (List.replicate n zc).flatten[j]? = some d → j < n * sz ∧ zc[j % sz]? = some d
  | 0, hj => by simp at hj
  | n + 1, hj => by
    simp only [List.replicate_succ, List.flatten_cons] at hj
    rcases Nat.lt_or_ge j sz with hlt | hge
    · rw [List.getElem?_append_left (by omega)] at hj
      rw [Nat.mod_eq_of_lt hlt]
      exact ⟨by rw [Nat.add_mul]; omega, hj⟩
    · rw [List.getElem?_append_right (by omega), h] at hj
      obtain ⟨h1, h2⟩ := zero_cells h hp hj
      refine ⟨by rw [Nat.add_mul]; omega, ?_⟩
      rw [Nat.mod_eq_sub_mod hge]; exact h2

/-- A row of zeros. -/
theorem zero_row {bx : List Nat} {s : Nat → Nat} {n : Nat} {ti : TI} {z : Value} (hz : Rep bx s w ti.zero z) (hl : ti.zero.cells.length = ti.sz) (hp : 0 < ti.sz) :
    (cellsL (List.replicate n ti.zero)).length = ((Array.range (n * ti.sz)).map (z.cells[· % z.cells.size]!)).size ∧
      ∀ (j : Nat) (d : D), (cellsL (List.replicate n ti.zero))[j]? = some d → Rep bx s w d (((Array.range (n * ti.sz)).map (z.cells[· % z.cells.size]!)).getD j Go.undef) := by
  have hzs : z.cells.size = ti.sz := by rw [← hl]; exact hz.cells_len.symm
  refine ⟨by rw [cellsL_length (sz := ti.sz) (fun x hx => by rw [List.eq_of_mem_replicate hx, hl])]; simp, fun j d hj => ?_⟩
  have e : cellsL (List.replicate n ti.zero) = (List.replicate n ti.zero.cells).flatten := by simp [cellsL]
  rw [e] at hj
  obtain ⟨h1, h2⟩ := zero_cells hl hp hj
  obtain ⟨u, hu, hr⟩ := hz.cells_at h2
  have hlt : j % ti.sz < z.cells.size := by rw [hzs]; exact Nat.mod_lt _ hp
  have : ((Array.range (n * ti.sz)).map (z.cells[· % z.cells.size]!)).getD j Go.undef = u := by
    rw [hzs]
    simp [Array.getD, h1, hlt]
    have := hu
    rw [Array.getElem?_eq_getElem hlt] at this
    injection this
  rw [this]; exact hr

/-- A row that stays as it is. -/
theorem vec_new {bx : List Nat} {s : Nat → Nat} {sz : Nat} {xs : List D} {cs : Array Value} {k cap : Nat} {p : Perm} {t : TypeId} {fr : Nat × Nat} (hp : p = .none ∨ p = .exact ∧ cap = xs.length) (hcap : xs.length ≤ cap)
    (hsz : OkL sz xs) (hb : w.heap[k]? = some (.cells cs t fr)) (hs : xs.length * sz ≤ s k)
    (hl : (cellsL xs).length ≤ cs.size) (hr : ∀ (j : Nat) (d : D), (cellsL xs)[j]? = some d → Rep bx s w d (cs.getD j Go.undef)) : Rep bx s w (.vec sz xs p) (.slice (some ⟨k, 0, none⟩) xs.length cap) := by
  refine .vec sz xs p ⟨k, 0, none⟩ cap (fun i => cs.getD i Go.undef) (hp.imp id .inl) hcap hsz (fun i d hi => ?_) hr (fun _ => by simpa using hs)
  have hlt := lt_of_get hi
  rw [add_plain]
  have h := getD_some (vs := cs) (i := i) (by omega)
  show w.cell? ⟨k, 0 + i, none⟩ = some (cs.getD i Go.undef)
  generalize cs.getD i Go.undef = u at h ⊢
  simp [World.cell?, hb, h]

theorem run_buildSlice' {P : Program} (w : World) (t e : TypeId) (len : Nat) (parts : Array (Nat × Value)) (cells : Array Value) (ie : TypeInfo) (z : Value)
    (hu : P.underlying t = some (.slice e)) (hie : P.info? e = some ie) (hz : ie.zero = some z) (hsmall : ¬ len * ie.size > 16777216)
    (h : Instr.fill (fun i => some (i * ie.size, ie.size)) ((Array.range (len * ie.size)).map (z.cells[· % z.cells.size]!)) parts.toList = some cells) :
    (Instr.buildSlice t len parts).run P w = .ok (.slice (some ⟨w.heap.size, 0, none⟩) len len) (w.alloc (.cells cells e)) := by
  by_cases h0 : len * ie.size = 0
  · rw [h0] at h
    have e0 : (Array.range 0).map (z.cells[· % z.cells.size]!) = #[] := by simp
    rw [e0] at h
    have e1 : (Array.map (fun _ => (default : Value)) (Array.range 0)) = #[] := by simp
    simp [Instr.buildSlice, run_underlying hu, sizeOf, typeInfo, zeroValue, hie, hz, h0, e1, h, newRow, newObj, Sem.run]
  · exact run_buildSlice w t e len parts cells ie z hu hie hz (by simpa using hsmall) h0 h

theorem leaf_cells {d : D} (h : d.leaf = true) : d.cells = [d] := by cases d <;> first | rfl | (simp [D.leaf] at h)

theorem cellsL_leaf : ∀ {xs : List D}, (∀ x, x ∈ xs → x.leaf = true) → cellsL xs = xs
  | [], _ => rfl
  | x :: xs, h => by
    have ih := cellsL_leaf (xs := xs) (fun y hy => h y (by simp [hy]))
    have hx := leaf_cells (h x (by simp))
    simp only [cellsL, List.map_cons, List.flatten_cons] at ih ⊢
    rw [hx, ih]; rfl

theorem op_buildSlice {T : Tab} (hT : TabOk c.P T) {st : St} {a : Act} {o : Oper} {t e : TypeId} {len : Nat} {parts : Array (Nat × Operand)} {ti ei : TI} {ps : List (Nat × D)} {xs : List D} (ho : o.op = .buildSlice t len parts)
    (hf : FS c g st.L st.τ st.B w) (he : EnvR c g (dom st.L) st.τ.length w st.ρ a) (ht : T t = some ti) (htd : ti.d = .slice e) (hei : T e = some ei) {ty : Nat → TypeId} (hps : okParts ei.sz (partsV T ty st.ρ parts.toList) = some ps)
    (h0 : ei.sz ≠ 0) (hsmall : len * ei.sz ≤ 16777216) (hfill : fillL (List.replicate len ei.zero) ps = some xs) : OpOk c g st w a o (.vec ei.sz xs .exact) st ∧
      (ei.sz = 1 → xs.all D.leaf = true → OpOk c g st w a o (.lsl st.L.length 0 xs.length 1) { st with L := st.L ++ [some xs] }) := by
  have hund : c.P.underlying t = some (.slice e) := desc_of hT ht htd
  obtain ⟨ie, z, hie, hes, _, hz, hrz⟩ := hT.info e ei hei
  have hzl := hT.zlen e ei hei
  obtain ⟨hlen, hparts⟩ := partsV_spec (T := T) (ty := ty) he parts.toList
  obtain ⟨hpl, hpp⟩ := okParts_spec hps
  have hrep : OkL ei.sz (List.replicate len ei.zero) := fun x hx => by rw [List.eq_of_mem_replicate hx]; exact ⟨hzl, hT.zleaf e ei hei⟩
  have hpw : ∀ p, p ∈ ps → (p.2.cells.length = ei.sz ∧ p.2.cells.all D.leaf = true) ∧ p.2.whole = true := fun p hp => by
    obtain ⟨i, hi⟩ := List.getElem?_of_mem hp
    obtain ⟨h1, d, _, h2⟩ := hpp i p.1 p.2 hi
    exact ⟨⟨h1, demoteC_leaf h2⟩, (demoteC_whole h2).1⟩
  obtain ⟨hv, hxl, hxs⟩ := fillL_fillV hrep hpw hfill
  rw [List.length_replicate] at hxl
  obtain ⟨hz1, hz2⟩ := zero_row (n := len) (hrz g.bx g.s w) hzl (Nat.pos_of_ne_zero h0)
  obtain ⟨cs, h1, h2, h3⟩ := fill_spec (Rep g.bx g.s w) _ (fun i => some (i * ie.size, ie.size)) (fun i p hp => by rw [hes]; exact hp) ps (parts.toList.map fun (i, x) => (i, a.eval x)) _ _ _ (by rw [← hpl, hlen])
    (fun i k d hi => by
      obtain ⟨_, d', hd', hdm⟩ := hpp i k d hi
      obtain ⟨v, hv, hr⟩ := hparts i k d' hd'
      have hc := demoteC_clean hdm hr
      exact ⟨v, hv, fun _ => ⟨hc.cells_len, fun j e hj => by obtain ⟨u, hu, hru⟩ := hc.cells_at hj; simp [Array.getD_eq_getD_getElem?, hu]; exact hru⟩⟩) hz1 hz2 hv
  have hcl := cellsL_length hxs.len
  have hcsz : cs.size = len * ei.sz := by rw [← h2, hcl, hxl]
  have hrun := run_buildSlice' (P := c.P) w t e len (parts.map fun (i, x) => (i, a.eval x)) cs ie z hund hie hz (by rw [hes]; omega) (by rw [Array.toList_map, hes]; rw [hes] at h1; exact h1)
  constructor
  · obtain ⟨a1, a2⟩ := hf.alloc_stable cs e (len * ei.sz)
    refine .value (v := .slice (some ⟨w.heap.size, 0, none⟩) len len) (g' := g.withS w.heap.size (len * ei.sz)) (by simp [execOp, ho, hrun]) a1 a2 ?_
    have hnew := heap_alloc_new w (.cells cs e)
    have := vec_new (bx := g.bx) (s := (g.withS w.heap.size (len * ei.sz)).s) (w := w.alloc (.cells cs e)) (sz := ei.sz) (xs := xs) (cs := cs) (k := w.heap.size) (cap := len) (p := .exact) (t := e) (fr := (0, 0)) (.inr ⟨rfl, hxl.symm⟩)
      (by omega) hxs hnew (by simp [Gh.withS, hxl]) (by omega) (fun j d hj => (h3 j d hj).mono a2.ev)
    rw [hxl] at this
    exact .clean _ _ this
  · intro h1 hlf
    have hleaf : ∀ x, x ∈ xs → x.leaf = true := List.all_eq_true.1 hlf
    have hcx : cellsL xs = xs := cellsL_leaf hleaf
    rw [hcx] at h2 h3
    obtain ⟨a1, a2⟩ := hf.alloc_box cs e (0, 0) xs (nofr_zero _) (fun j d hj => by
      have hlt := lt_of_get hj
      exact ⟨_, getD_some (by omega), .clean _ _ (h3 j d hj)⟩)
    refine .value (v := .slice (some ⟨w.heap.size, 0, none⟩) len len) (by simp [execOp, ho, hrun]) a1 a2 ?_
    have : (g.newL st.L.length w.heap.size).loc st.L.length = w.heap.size := by simp [Gh.newL]
    have h4 := RepF.lsl (c := c) (g := g.newL st.L.length w.heap.size) (nL := dom (st.L ++ [some xs])) (nT := st.τ.length) (w := w.alloc (.cells cs e)) st.L.length 0 xs.length 1 len (dom_new _ _) (by omega)
    rw [this, hxl] at h4
    rw [hxl]; exact h4

end Go.Proofs.YtbbbhalmlboapaaDoor.V

/-
New rows, conversions, lengths, the greatest and the least.
-/
namespace Go.Proofs.YtbbbhalmlboapaaDoor.V
set_option linter.unusedSimpArgs false
set_option linter.unusedVariables false
open Go Go.RowKit

variable {c : Cx} {g : Gh} {nL : Nat → Prop} {nT : Nat} {w : World}

theorem FS.drew {L : List (Option (List D))} {τ : List Bool} {B : List (List D)} (h : FS c g L τ B w) : FS c g L τ B w.drew ∧ Gle c g (dom L) τ.length w g (dom L) τ.length w.drew :=
  h.same rfl rfl rfl rfl

theorem op_makeSlice {T : Tab} (hT : TabOk c.P T) {st : St} {a : Act} {o : Oper} {t e : TypeId} {l m : Operand} {n : Nat} {ti ei : TI} (ho : o.op = .makeSlice t l m) (hf : FS c g st.L st.τ st.B w)
    (he : EnvR c g (dom st.L) st.τ.length w st.ρ a) (ht : T t = some ti) (htd : ti.d = .slice e) (hei : T e = some ei) (hl : eval st.ρ l = .int .i64 n) (hm : eval st.ρ m = .int .i64 n) (hroom : n * ei.bytes ≤ 140737488355328) (hsz : ei.sz = 1) (hby : 1 ≤ ei.bytes)
    (hlf : ei.zero.leaf = true) :
    OpOk c g st w a o (.vec 1 (List.replicate n ei.zero) .exact) st ∧
      OpOk c g st w a o (.lsl st.L.length 0 n 1) { st with L := st.L ++ [some (List.replicate n ei.zero)] } := by
  have hund : c.P.underlying t = some (.slice e) := desc_of hT ht htd
  obtain ⟨ie, z, hie, hes, heb, hz, hrz⟩ := hT.info e ei hei
  have hzl := hT.zlen e ei hei
  have hn : n ≤ n * ei.bytes := Nat.le_mul_of_pos_right _ hby
  have e1 := he.eval l
  have e2 := he.eval m
  rw [hl] at e1; rw [hm] at e2
  have e1 := e1.int_inv
  have e2 := e2.int_inv
  have hrun := run_make (P := c.P) w t e ie z hund hie hz .i64 .i64 n n (by omega) (Int.le_refl _) (by
    rw [heb]
    have : ((n * ei.bytes : Nat) : Int) ≤ 140737488355328 := by omega
    rw [Int.natCast_mul] at this
    rw [Int.mul_comm]; omega) (by omega)
  simp only [Int.toNat_natCast, hes, hsz, Nat.mul_one] at hrun
  obtain ⟨hz1, hz2⟩ := zero_row (n := n) (hrz g.bx g.s w) hzl (by omega)
  rw [hsz, Nat.mul_one] at hz1 hz2
  have hcl : cellsL (List.replicate n ei.zero) = List.replicate n ei.zero := cellsL_leaf (fun x hx => by rw [List.eq_of_mem_replicate hx]; exact hlf)
  have hok : OkL 1 (List.replicate n ei.zero) := fun x hx => by rw [List.eq_of_mem_replicate hx, leaf_cells hlf]; exact ⟨rfl, by simp [hlf]⟩
  change _ = (madeCells z.cells n).size at hz1
  change ∀ (j : Nat) (d : D), _ → Rep _ _ _ d ((madeCells z.cells n).getD j Go.undef) at hz2
  have hexec : (execOp a.eval o).run c.P w = .ok (.value (.slice (some ⟨w.heap.size, 0, none⟩) n n)) (w.alloc (.cells (madeCells z.cells n) e)) := by
    simp [execOp, ho, e1, e2, hrun]
  constructor
  · obtain ⟨a1, a2⟩ := hf.alloc_stable (madeCells z.cells n) e n
    refine .value hexec a1 a2 ?_
    have hnew := heap_alloc_new w (.cells (madeCells z.cells n) e)
    have := vec_new (bx := g.bx) (s := (g.withS w.heap.size n).s) (sz := 1) (xs := List.replicate n ei.zero) (cap := n) (p := .exact) (.inr ⟨rfl, by simp⟩) (by simp) hok hnew (by simp [Gh.withS]) (by omega) (fun j d hj => (hz2 j d hj).mono a2.ev)
    rw [List.length_replicate] at this
    exact .clean _ _ this
  · obtain ⟨a1, a2⟩ := hf.alloc_box (madeCells z.cells n) e (0, 0) (List.replicate n ei.zero) (nofr_zero _) (fun j d hj => by
      rw [hcl] at hz1 hz2
      have hlt := lt_of_get hj
      exact ⟨_, getD_some (by omega), .clean _ _ (hz2 j d hj)⟩)
    refine .value hexec a1 a2 ?_
    have : (g.newL st.L.length w.heap.size).loc st.L.length = w.heap.size := by simp [Gh.newL]
    have h3 := RepF.lsl (c := c) (g := g.newL st.L.length w.heap.size) (nL := dom (st.L ++ [some (List.replicate n ei.zero)])) (nT := st.τ.length) (w := w.alloc (.cells (madeCells z.cells n) e)) st.L.length 0 n 1 n (dom_new _ _) (Nat.le_refl _)
    rw [this] at h3; exact h3

/-- No elements, but room: a row of the frame's own. -/
theorem op_makeRoom {T : Tab} (hT : TabOk c.P T) {st : St} {a : Act} {o : Oper} {t e : TypeId} {l m : Operand} {n : Nat} {ti ei : TI} (ho : o.op = .makeSlice t l m) (hf : FS c g st.L st.τ st.B w)
    (he : EnvR c g (dom st.L) st.τ.length w st.ρ a) (ht : T t = some ti) (htd : ti.d = .slice e) (hei : T e = some ei) (hl : eval st.ρ l = .int .i64 0) (hm : eval st.ρ m = .int .i64 n) (hroom : n * ei.bytes ≤ 140737488355328) (hsz : ei.sz = 1) (hby : 1 ≤ ei.bytes) :
    OpOk c g st w a o (.vec 1 [] (.own st.τ.length)) { st with τ := st.τ ++ [true] } := by
  have hund : c.P.underlying t = some (.slice e) := desc_of hT ht htd
  obtain ⟨ie, z, hie, hes, heb, hz, hrz⟩ := hT.info e ei hei
  have hzl := hT.zlen e ei hei
  have hn : n ≤ n * ei.bytes := Nat.le_mul_of_pos_right _ hby
  have e1 := he.eval l
  have e2 := he.eval m
  rw [hl] at e1; rw [hm] at e2
  have e1 := e1.int_inv
  have e2 := e2.int_inv
  have hrun := run_make (P := c.P) w t e ie z hund hie hz .i64 .i64 0 n (by omega) (by omega) (by
    rw [heb]
    have : ((n * ei.bytes : Nat) : Int) ≤ 140737488355328 := by omega
    rw [Int.natCast_mul] at this
    rw [Int.mul_comm]; omega) (by omega)
  simp only [Int.toNat_natCast, hes, hsz, Nat.mul_one, Int.toNat_zero] at hrun
  have hcs : (madeCells z.cells n).size = n := by simp [madeCells]
  have hexec : (execOp a.eval o).run c.P w = .ok (.value (.slice (some ⟨w.heap.size, 0, none⟩) 0 n)) (w.alloc (.cells (madeCells z.cells n) e)) := by
    simp [execOp, ho, e1, e2, hrun]
  obtain ⟨a1, a2⟩ := hf.alloc_tok (madeCells z.cells n) e 0
  refine .value hexec a1 a2 ?_
  have hnew := heap_alloc_new w (.cells (madeCells z.cells n) e)
  have hv := vec_new (bx := g.bx) (s := ((g.withS w.heap.size 0).newT st.τ.length w.heap.size 0 (madeCells z.cells n).size).s) (w := w.alloc (.cells (madeCells z.cells n) e)) (sz := 1) (xs := []) (cs := madeCells z.cells n) (k := w.heap.size) (cap := n) (p := .none) (t := e) (fr := (0, 0)) (.inl rfl)
    (by simp) (fun x hx => by cases hx) hnew (by simp [Gh.withS, Gh.newT]) (by simp [cellsL]) (fun j d hj => by simp [cellsL] at hj)
  have htk : ((g.withS w.heap.size 0).newT st.τ.length w.heap.size 0 (madeCells z.cells n).size).tk st.τ.length = w.heap.size := by simp [Gh.newT]
  have := RepF.own (c := c) (g := (g.withS w.heap.size 0).newT st.τ.length w.heap.size 0 (madeCells z.cells n).size) (nL := dom st.L) (nT := (st.τ ++ [true]).length) (w := w.alloc (.cells (madeCells z.cells n) e)) st.τ.length 1 [] n (by simp)
    (by rw [htk]; exact hv) (by simp [Gh.newT]) (by simp [Gh.newT]) (by simp only [Gh.newT, if_true]; rw [hcs, Nat.mul_one])
  rw [htk] at this
  exact this

/-! ### Lengths -/
theorem lenV_inv {d : D} {n : Nat} {v : Value} (h : lenV d = some n) (hr : RepF c g nL nT w d v) : (∃ s : ByteArray, v = .string s ∧ s.size = n ∧ ∃ l, d = .str l) ∨ ∃ a cap, v = .slice a n cap := by
  cases d <;> simp only [lenV] at h <;> try (cases h; done)
  case str s => injection h with h; obtain ⟨s', rfl, hs⟩ := hr.str_inv; exact .inl ⟨s', rfl, by rw [← h, ← hs]; simp, _, rfl⟩
  case vec sz xs p =>
    injection h with h; subst h
    rcases hr.vec_inv.vec_shape with ⟨rfl, rfl⟩ | ⟨a, cap, rfl, _⟩
    · exact .inr ⟨_, _, rfl⟩
    · exact .inr ⟨_, _, rfl⟩
  case lsl i off len sz => injection h with h; subst h; obtain ⟨cap, rfl, _⟩ := hr.lsl_inv; exact .inr ⟨_, _, rfl⟩

theorem builtin_exec {a : Act} {o : Oper} {cl : Call} {b : Builtin} (ho : o.op = .call cl) (hb : cl.callee = .builtin b) : ∃ consts, (execOp a.eval o) = Go.builtin b cl.argTypes o.type consts (cl.args.map a.eval) :=
  ⟨_, by simp [execOp, ho, resolve, hb, invoke]; rfl⟩

theorem map_one {α β : Type} {f : α → β} {l : List α} {x : β} (h : l.map f = [x]) : ∃ a, l = [a] ∧ f a = x := by
  match l, h with
  | [a], h => simp at h; exact ⟨a, rfl, h⟩

theorem map_cons {α β : Type} {f : α → β} {l : List α} {x : β} {r : List β} (h : l.map f = x :: r) : ∃ a s, l = a :: s ∧ f a = x ∧ s.map f = r := by
  match l, h with
  | a :: s, h => simp at h; exact ⟨a, s, rfl, h.1, h.2⟩

theorem args_one {a : Act} {args : Array Operand} {x : Operand} (h : args.toList = [x]) : args.map a.eval = #[a.eval x] := by
  apply Array.ext'; simp [h]

theorem args_two {a : Act} {args : Array Operand} {x y : Operand} (h : args.toList = [x, y]) : args.map a.eval = #[a.eval x, a.eval y] := by
  apply Array.ext'; simp [h]

theorem get_head {α : Type} {l : Array α} {x : α} {r : List α} (h : l.toList = x :: r) : l[0]? = some x := by
  rw [← Array.getElem?_toList, h]; rfl

theorem get_snd {α : Type} {l : Array α} {x y : α} {r : List α} (h : l.toList = x :: y :: r) : l[1]? = some y := by
  rw [← Array.getElem?_toList, h]; rfl

theorem argsV_spec {T : Tab} {st : St} {a : Act} (he : EnvR c g nL nT w st.ρ a) : ∀ (l : List Operand) (ts : List TypeId), (argsV T st.ρ l ts).length = (l.map a.eval).length ∧
    ∀ (i : Nat) (d : D), (argsV T st.ρ l ts)[i]? = some d → ∃ v, (l.map a.eval)[i]? = some v ∧ RepF c g nL nT w d v
  | [], ts => by cases ts <;> exact ⟨rfl, fun i d hi => by simp [argsV] at hi⟩
  | x :: l, ts => by
    cases ts with
    | nil =>
      obtain ⟨h1, h2⟩ := argsV_spec (T := T) he l []
      refine ⟨by simp [argsV] at h1 ⊢; exact h1, fun i d hi => ?_⟩
      cases i with
      | zero => simp [argsV] at hi; subst hi; exact ⟨_, by simp, he.eval x⟩
      | succ i => simp [argsV] at hi; obtain ⟨v, hv, hr⟩ := h2 i d hi; exact ⟨v, by simpa using hv, hr⟩
    | cons t ts =>
      obtain ⟨h1, h2⟩ := argsV_spec (T := T) he l ts
      refine ⟨by simp [argsV] at h1 ⊢; exact h1, fun i d hi => ?_⟩
      cases i with
      | zero => simp [argsV] at hi; subst hi; exact ⟨_, by simp, he.evalT x⟩
      | succ i => simp [argsV] at hi; obtain ⟨v, hv, hr⟩ := h2 i d hi; exact ⟨v, by simpa using hv, hr⟩

theorem argsV_cons {T : Tab} {st : St} {a : Act} (he : EnvR c g nL nT w st.ρ a) {l : List Operand} {ts : List TypeId} {x : D} {r : List D} (h : argsV T st.ρ l ts = x :: r) : ∃ ax as ts', l = ax :: as ∧ RepF c g nL nT w x (a.eval ax) ∧ argsV T st.ρ as ts' = r := by
  cases l with
  | nil => cases ts <;> simp [argsV] at h
  | cons y l =>
    cases ts with
    | nil => simp [argsV] at h; exact ⟨y, l, [], rfl, by rw [← h.1]; exact he.eval y, h.2⟩
    | cons t ts => simp [argsV] at h; exact ⟨y, l, ts, rfl, by rw [← h.1]; exact he.evalT y, h.2⟩

theorem argsV_nil {T : Tab} {ρ : Env} {l : List Operand} {ts : List TypeId} (h : argsV T ρ l ts = []) : l = [] := by
  cases l with
  | nil => rfl
  | cons y l => cases ts <;> simp [argsV] at h

theorem argsV_one {T : Tab} {st : St} {a : Act} (he : EnvR c g nL nT w st.ρ a) {l : List Operand} {ts : List TypeId} {x : D} (h : argsV T st.ρ l ts = [x]) : ∃ ax, l = [ax] ∧ RepF c g nL nT w x (a.eval ax) := by
  obtain ⟨ax, as, ts', rfl, hr, h2⟩ := argsV_cons he h
  rw [argsV_nil h2]; exact ⟨ax, rfl, hr⟩

theorem argsV_two {T : Tab} {st : St} {a : Act} (he : EnvR c g nL nT w st.ρ a) {l : List Operand} {ts : List TypeId} {x y : D} (h : argsV T st.ρ l ts = [x, y]) : ∃ ax ay, l = [ax, ay] ∧ RepF c g nL nT w x (a.eval ax) ∧ RepF c g nL nT w y (a.eval ay) := by
  obtain ⟨ax, as, ts', rfl, hr, h2⟩ := argsV_cons he h
  obtain ⟨ay, rfl, hr2⟩ := argsV_one he h2
  exact ⟨ax, ay, rfl, hr, hr2⟩

theorem op_len {T : Tab} (hT : TabOk c.P T) {st : St} {a : Act} {o : Oper} {cl : Call} {t : TypeId} {r : List TypeId} {x : D} {ti : TI} {n : Nat} (ho : o.op = .call cl) (hb : cl.callee = .builtin .len)
    (hf : FS c g st.L st.τ st.B w) (he : EnvR c g (dom st.L) st.τ.length w st.ρ a) (hts : cl.argTypes.toList = t :: r) {ts' : List TypeId} (hxs : argsV T st.ρ cl.args.toList ts' = [x]) (ht : T t = some ti)
    (hd : (∃ e, ti.d = .array n e) ∨ (ti.d = .str ∧ ∃ s, x = .str s ∧ s.length = n) ∨ (∃ e, ti.d = .slice e) ∧ (∀ s, x ≠ .str s) ∧ lenV x = some n) : OpOk c g st w a o (.int .i64 n) st := by
  obtain ⟨consts, hex⟩ := builtin_exec (a := a) ho hb
  obtain ⟨ax, hax, hr⟩ := argsV_one he hxs
  refine .pure (v := .int .i64 n) ?_ hf (.clean _ _ (.int _ _))
  rw [hex, args_one hax]
  rcases hd with ⟨e, htd⟩ | ⟨htd, s, rfl, hs⟩ | ⟨⟨e, htd⟩, hns, hlen⟩
  · have hund : c.P.underlying t = some (.array n e) := desc_of hT ht htd
    simp [Go.builtin, Builtin.len_, get_head hts, run_underlying hund, goInt]
  · have hund : c.P.underlying t = some .string := desc_of hT ht htd
    obtain ⟨s', hv, hs'⟩ := hr.str_inv
    have : s'.size = n := by rw [← hs, ← hs']; simp
    simp [Go.builtin, Builtin.len_, get_head hts, run_underlying hund, goInt, hv, this]
  · have hund : c.P.underlying t = some (.slice e) := desc_of hT ht htd
    rcases lenV_inv hlen hr with ⟨_, _, _, l, rfl⟩ | ⟨ad, cap, hv⟩
    · exact absurd rfl (hns l)
    · simp [Go.builtin, Builtin.len_, get_head hts, run_underlying hund, goInt, hv]

theorem maxV_spec {P : Program} {big : Bool} {x y z : D} {u v : Value} (h : maxV big x y = some z) (hx : RepF c g nL nT w x u) (hy : RepF c g nL nT w y v) :
    ∃ r, ((bif big then Builtin.max2 u v else Builtin.min2 u v) : Sem Value).run P w = .ok r w ∧ RepF c g nL nT w z r := by
  unfold maxV at h
  split at h
  · split at h
    · rename_i k a k' b hk
      subst hk
      injection h with h; subst h
      obtain rfl := hx.int_inv
      obtain rfl := hy.int_inv
      cases big
      · exact ⟨_, by simp [Builtin.min2], .clean _ _ (.int _ _)⟩
      · exact ⟨_, by simp [Builtin.max2], .clean _ _ (.int _ _)⟩
    · cases h
  · rename_i a b
    injection h with h; subst h
    obtain ⟨s, rfl, rfl⟩ := hx.str_inv
    obtain ⟨t, rfl, rfl⟩ := hy.str_inv
    cases big
    · refine ⟨.string (if (Op.bytesLess s.data.toList t.data.toList || s.data.toList == t.data.toList) = true then s else t), ?_, ?_⟩
      · simp [Builtin.min2, Op.stringOp, ByteArray.toList_eq, asBool]
      · cases hb : (Op.bytesLess s.data.toList t.data.toList || s.data.toList == t.data.toList) <;> exact .clean _ _ (.str _)
    · refine ⟨.string (if Op.bytesLess s.data.toList t.data.toList = false then s else t), ?_, ?_⟩
      · simp [Builtin.max2, Op.stringOp, ByteArray.toList_eq, asBool]
      · cases hb : Op.bytesLess s.data.toList t.data.toList <;> exact .clean _ _ (.str _)
  · cases h

theorem maxL_spec {P : Program} {big : Bool} : ∀ {ys : List D} {x z : D} {u : Value} {vs : List Value}, maxL big x ys = some z → RepF c g nL nT w x u → ys.length = vs.length → (∀ (i : Nat) (d : D), ys[i]? = some d → ∃ v, vs[i]? = some v ∧ RepF c g nL nT w d v) →
    ∃ r, ((vs.foldlM (bif big then Builtin.max2 else Builtin.min2) u) : Sem Value).run P w = .ok r w ∧ RepF c g nL nT w z r
  | [], x, z, u, vs, h, hx, hl, _ => by
    simp [maxL] at h; subst h
    cases vs with
    | nil => exact ⟨u, by simp, hx⟩
    | cons _ _ => simp at hl
  | y :: ys, x, z, u, vs, h, hx, hl, hr => by
    cases vs with
    | nil => simp at hl
    | cons v vs =>
      simp only [maxL] at h
      split at h
      · rename_i m hm
        obtain ⟨v', hv', hy⟩ := hr 0 y rfl
        simp at hv'; subst hv'
        obtain ⟨r, hrun, hrep⟩ := maxV_spec (P := P) hm hx hy
        obtain ⟨q, h1, h2⟩ := maxL_spec (P := P) h hrep (by simpa using hl) (fun i d hi => by obtain ⟨v, hv, hr⟩ := hr (i + 1) d (by simpa using hi); exact ⟨v, by simpa using hv, hr⟩)
        refine ⟨q, ?_, h2⟩
        cases big <;> simp only [cond_true, cond_false] at hrun h1 ⊢ <;> simp [List.foldlM_cons, hrun, h1]
      · cases h

theorem evalL_spec {st : St} {a : Act} (he : EnvR c g nL nT w st.ρ a) (l : List Operand) : (l.map (eval st.ρ)).length = (l.map a.eval).length ∧ ∀ (i : Nat) (d : D), (l.map (eval st.ρ))[i]? = some d → ∃ v, (l.map a.eval)[i]? = some v ∧ RepF c g nL nT w d v := by
  refine ⟨by simp, fun i d hi => ?_⟩
  simp only [List.getElem?_map, Option.map_eq_some_iff] at hi ⊢
  obtain ⟨x, hx, rfl⟩ := hi
  exact ⟨a.eval x, ⟨x, hx, rfl⟩, he.eval x⟩

theorem op_max {T : Tab} {st : St} {a : Act} {o : Oper} {cl : Call} {big : Bool} {x z : D} {ys : List D} (ho : o.op = .call cl) (hb : cl.callee = .builtin (bif big then .max else .min))
    (hf : FS c g st.L st.τ st.B w) (he : EnvR c g (dom st.L) st.τ.length w st.ρ a) {ts' : List TypeId} (hxs : argsV T st.ρ cl.args.toList ts' = x :: ys) (hm : maxL big x ys = some z) : OpOk c g st w a o z st := by
  obtain ⟨consts, hex⟩ := builtin_exec (a := a) ho hb
  obtain ⟨ax, as, ts2, hax, hr, has⟩ := argsV_cons he hxs
  obtain ⟨h1, h2⟩ := argsV_spec (T := T) he as ts2
  rw [has] at h1 h2
  obtain ⟨r, hrun, hrep⟩ := maxL_spec (P := c.P) hm hr h1 h2
  refine .pure (v := r) ?_ hf hrep
  rw [hex]
  have e : cl.args.map a.eval = (a.eval ax :: as.map a.eval).toArray := by apply Array.ext'; simp [hax]
  rw [e]
  cases big <;> simp only [cond_true, cond_false] at hrun ⊢ <;> simp [Go.builtin, Builtin.max_, Builtin.min_, hrun]

end Go.Proofs.YtbbbhalmlboapaaDoor.V
