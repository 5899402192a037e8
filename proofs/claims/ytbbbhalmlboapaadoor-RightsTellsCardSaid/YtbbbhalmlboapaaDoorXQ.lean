import Derived.Test.YtbbbhalmlboapaaDoorXP
/-
Arguments of any shape: numbers, texts, yes and no, and structs, arrays and slices of such.
-/
namespace Go.Proofs.YtbbbhalmlboapaaDoor.V
set_option linter.unusedSimpArgs false
set_option linter.unusedVariables false
open Go Go.RowKit Go.ChangeShapes

/-- What a cell holds. -/
inductive Sh where
  | int (k : IntKind) | str | bool | rows (ls : List Sh)

def fieldSh (f : TypeId → Option (List Sh)) (P : Program) : List Field → Nat → Option (List Sh)
  | [], _ => some []
  | x :: r, off => match f x.type with
    | some ls => if x.offset = off ∧ P.cellsOf x.type = ls.length then
        match fieldSh f P r (off + ls.length) with
        | some q => some (ls ++ q)
        | .none => .none
      else .none
    | .none => .none

/-- A type's cells. -/
def shapes (P : Program) : Nat → TypeId → Option (List Sh)
  | 0, _ => .none
  | n + 1, t => match P.underlying t with
    | some (.int k) => some [.int k]
    | some .string => some [.str]
    | some .bool => some [.bool]
    | some (.slice e) => match shapes P n e with
      | some ls => if P.cellsOf e = ls.length ∧ 0 < ls.length then some [.rows ls] else .none
      | .none => .none
    | some (.array m e) => match shapes P n e with
      | some ls => if P.cellsOf e = ls.length ∧ P.cellsOf t = (List.replicate m ls).flatten.length then some (List.replicate m ls).flatten else .none
      | .none => .none
    | some (.struct fs) => match fieldSh (shapes P n) P fs.toList 0 with
      | some ls => if P.cellsOf t = ls.length then some ls else .none
      | .none => .none
    | _ => .none

/-- Elements, by their cells. -/
def mkD : List D → D
  | [d] => d
  | ds => .agg ds

inductive OfSh : Sh → D → Prop
  | int (k : IntKind) (n : Int) (h : (Lit.int k n).wf = true) : OfSh (.int k) (.int k n)
  | str (s : List UInt8) (h : s.length ≤ 9223372036854775807) : OfSh .str (.str s)
  | bool (b : Bool) : OfSh .bool (.bool b)
  | rows (ls : List Sh) (xs : List (List D)) (hl : xs.length ≤ 9223372036854775807) (h1 : ∀ x, x ∈ xs → x.length = ls.length)
      (h2 : ∀ (x : List D) (i : Nat) (l : Sh) (d : D), x ∈ xs → ls[i]? = some l → x[i]? = some d → OfSh l d) : OfSh (.rows ls) (.vec ls.length (xs.map mkD) .none)

theorem OfSh.leaf {l : Sh} {d : D} (h : OfSh l d) : d.leaf = true := by cases h <;> rfl

theorem cells_one {d : D} (h : d.leaf = true) : d.cells = [d] := by cases d <;> first | rfl | cases h

theorem mkD_cells {x : List D} (h : ∀ d, d ∈ x → d.leaf = true) : (mkD x).cells = x := by
  match x with
  | [] => rfl
  | [d] => exact cells_one (h d (by simp))
  | _ :: _ :: _ => rfl

theorem flat_get {k : Nat} (hk : 0 < k) : ∀ (xs : List (List D)), (∀ x, x ∈ xs → x.length = k) → ∀ (i : Nat) (d : D), xs.flatten[i]? = some d → ∃ x, xs[i / k]? = some x ∧ x[i % k]? = some d
  | [], _, i, d, h => by simp at h
  | x :: xs, hl, i, d, h => by
    have hx := hl x (by simp)
    rw [List.flatten_cons, List.getElem?_append] at h
    split at h
    · rename_i hi
      refine ⟨x, ?_, ?_⟩
      · rw [Nat.div_eq_of_lt (by omega)]; rfl
      · rw [Nat.mod_eq_of_lt (by omega)]; exact h
    · rename_i hi
      obtain ⟨y, h1, h2⟩ := flat_get hk xs (fun y hy => hl y (by simp [hy])) (i - x.length) d h
      have e : i = (i - k) + k := by omega
      rw [hx] at h1 h2
      refine ⟨y, ?_, ?_⟩
      · rw [e, Nat.add_div_right _ hk]; simpa using h1
      · rw [e, Nat.add_mod_right]; exact h2

section
variable {H : Type} {enc : TypeId × Value → H} {P : Program} {W : World} {base : Nat} {spare : Nat → Bool} {held : Bool}

/-- Each cell, as the interpreter takes it. -/
def Cells (W : World) (ls : List Sh) (cs : List Value) (o : Nat) : Prop := ∀ i l, ls[i]? = some l → ∃ v d, cs[o + i]? = some v ∧ OfSh l d ∧ Rep [] (sizeAt W) W d v

theorem Cells.app {ls ms : List Sh} {cs : List Value} {o : Nat} (h : Cells W ls cs o) (h' : Cells W ms cs (o + ls.length)) : Cells W (ls ++ ms) cs o := by
  intro i l hi
  rw [List.getElem?_append] at hi
  split at hi
  · exact h i l hi
  · rename_i hn
    obtain ⟨v, d, h1, h2⟩ := h' (i - ls.length) l hi
    exact ⟨v, d, by rw [← h1]; congr 1; omega, h2⟩

theorem Cells.part {ls : List Sh} {cs : List Value} {o k : Nat} (h : Cells W ls ((cs.drop o).take k) 0) (hk : ls.length ≤ k) : Cells W ls cs o := by
  intro i l hi
  obtain ⟨v, d, h1, h2⟩ := h i l hi
  have := lt_of_get hi
  rw [Nat.zero_add, List.getElem?_take_of_lt (by omega), List.getElem?_drop] at h1
  exact ⟨v, d, h1, h2⟩

theorem cells_rep {ls : List Sh} : ∀ (m o : Nat) {cs : List Value}, (∀ j, j < m → Cells W ls cs ((o + j) * ls.length)) → Cells W (List.replicate m ls).flatten cs (o * ls.length)
  | 0, o, cs, _ => fun i l hi => by simp at hi
  | m + 1, o, cs, h => by
    rw [List.replicate_succ, List.flatten_cons]
    refine Cells.app (h 0 (by omega)) ?_
    have := cells_rep m (o + 1) (cs := cs) (fun j hj => by
      have := h (j + 1) (by omega)
      rwa [show o + (j + 1) = o + 1 + j by omega] at this)
    rwa [Nat.add_mul, Nat.one_mul] at this

theorem rep_rows {k : Nat} (hk : 0 < k) {a : Addr} {len cap : Nat} {dd : Nat → Nat → D} {vv : Nat → Nat → Value} (hcap : len ≤ cap)
    (h : ∀ i j, i < len → j < k → W.cell? (a.add (i * k + j)) = some (vv i j) ∧ (dd i j).leaf = true ∧ Rep [] (sizeAt W) W (dd i j) (vv i j)) :
    Rep [] (sizeAt W) W (.vec k (((List.range len).map fun i => (List.range k).map (dd i)).map mkD) .none) (.slice (some a) len cap) := by
  have hin : ∀ x, x ∈ ((List.range len).map fun i => (List.range k).map (dd i)) → x.length = k ∧ ∀ d, d ∈ x → d.leaf = true := by
    intro x hx
    simp only [List.mem_map, List.mem_range] at hx
    obtain ⟨i, hi, rfl⟩ := hx
    refine ⟨by simp, fun d hd => ?_⟩
    simp only [List.mem_map, List.mem_range] at hd
    obtain ⟨j, hj, rfl⟩ := hd
    exact (h i j hi hj).2.1
  have hcl : cellsL (((List.range len).map fun i => (List.range k).map (dd i)).map mkD) = ((List.range len).map fun i => (List.range k).map (dd i)).flatten := by
    unfold cellsL
    rw [List.map_map]
    congr 1
    conv => rhs; rw [← List.map_id ((List.range len).map fun i => (List.range k).map (dd i))]
    apply List.map_congr_left
    intro x hx
    exact mkD_cells (hin x hx).2
  have key : ∀ i d, (cellsL (((List.range len).map fun i => (List.range k).map (dd i)).map mkD))[i]? = some d → i / k < len ∧ d = dd (i / k) (i % k) ∧ i = i / k * k + i % k := by
    intro i d hi
    rw [hcl] at hi
    obtain ⟨x, h1, h2⟩ := flat_get hk _ (fun x hx => (hin x hx).1) i d hi
    have hl := lt_of_get h1
    simp only [List.length_map, List.length_range] at hl
    rw [List.getElem?_map, List.getElem?_range hl] at h1
    simp only [Option.map_some, Option.some.injEq] at h1
    subst h1
    rw [List.getElem?_map, List.getElem?_range (Nat.mod_lt _ hk)] at h2
    simp only [Option.map_some, Option.some.injEq] at h2
    exact ⟨hl, h2.symm, by rw [Nat.mul_comm]; exact (Nat.div_add_mod i k).symm⟩
  have hlen : (((List.range len).map fun i => (List.range k).map (dd i)).map mkD).length = len := by simp
  have hrep := Rep.vec (bx := []) (s := sizeAt W) (w := W) k (((List.range len).map fun i => (List.range k).map (dd i)).map mkD) .none a cap (fun i => vv (i / k) (i % k)) (.inl rfl) (by rw [hlen]; exact hcap)
    (fun x hx => by
      rw [List.mem_map] at hx
      obtain ⟨y, hy, rfl⟩ := hx
      rw [mkD_cells (hin y hy).2]
      exact ⟨(hin y hy).1, List.all_eq_true.2 (hin y hy).2⟩)
    (fun i d hi => by
      obtain ⟨h1, _, h3⟩ := key i d hi
      conv => lhs; rw [h3]
      exact (h _ _ h1 (Nat.mod_lt _ hk)).1)
    (fun i d hi => by
      obtain ⟨h1, h2, _⟩ := key i d hi
      rw [h2]; exact (h _ _ h1 (Nat.mod_lt _ hk)).2.2)
    (fun hne => by
      rw [hlen]
      have hpos : 0 < len := by
        rcases Nat.eq_zero_or_pos len with e | e
        · subst e; exact absurd rfl hne
        · exact e
      have hc := (h (len - 1) (k - 1) (by omega) (by omega)).1
      have hp := cell_plain hc
      rw [hp] at hc
      have := cell_size hc
      rw [add_block, add_off] at this
      have e : (len - 1) * k + (k - 1) + 1 = len * k := by
        obtain ⟨m, rfl⟩ : ∃ m, len = m + 1 := ⟨len - 1, by omega⟩
        rw [Nat.add_sub_cancel, Nat.add_mul]; omega
      omega)
  rw [hlen] at hrep
  exact hrep

theorem trod_cells : ∀ (n : Nat) (t : TypeId) (ls : List Sh), shapes P n t = some ls → ∀ (fuel : Nat) (cs : List Value) (x : DataW H × List MemPlace), DataW.trod enc P W base spare held fuel t cs = some x → cs.length = ls.length ∧ Cells W ls cs 0
  | 0, t, ls, hs, _, _, _, _ => by cases hs
  | n + 1, t, ls, hs, fuel, cs, x, hd => by
    have ih := trod_cells n
    rw [shapes] at hs
    split at hs
    · rename_i k hu
      injection hs with hs; subst hs
      obtain ⟨z, rfl, _, hw⟩ := DataW.trod_int hu hd
      refine ⟨rfl, fun i l hi => ?_⟩
      rcases i with _ | i
      · obtain rfl := Option.some.inj hi
        exact ⟨_, _, rfl, .int k z hw, .int k z⟩
      · simp at hi
    · rename_i hu
      injection hs with hs; subst hs
      obtain ⟨s, rfl, _, hw⟩ := DataW.trod_string hu hd
      refine ⟨rfl, fun i l hi => ?_⟩
      rcases i with _ | i
      · obtain rfl := Option.some.inj hi
        exact ⟨_, _, rfl, .str s.data.toList (by simpa [maxLen] using hw), .str s⟩
      · simp at hi
    · rename_i hu
      injection hs with hs; subst hs
      obtain ⟨b, rfl, _⟩ := DataW.trod_bool hu hd
      refine ⟨rfl, fun i l hi => ?_⟩
      rcases i with _ | i
      · obtain rfl := Option.some.inj hi
        exact ⟨_, _, rfl, .bool b, .bool b⟩
      · simp at hi
    · rename_i e hu
      split at hs
      · rename_i ms he
        split at hs
        · rename_i hk
          obtain ⟨hc, hpos⟩ := hk
          injection hs with hs; subst hs
          rcases DataW.trod_slice hu hd with ⟨rfl, _⟩ | ⟨a, len, cap, elems, rest, m, _, rfl, _, _, hl, hm, hlen, hel, _⟩
          · refine ⟨rfl, fun i l hi => ?_⟩
            rcases i with _ | i
            · obtain rfl := Option.some.inj hi
              exact ⟨_, _, rfl, .rows ms [] (by simp) (fun x hx => by cases hx) (fun x i l d hx => by cases hx), .nilv _ _ (.inl rfl)⟩
            · simp at hi
          · have each : ∀ i j, i < len → j < ms.length → ∃ vd : Value × D, W.cell? (a.add (i * ms.length + j)) = some vd.1 ∧ (∀ l, ms[j]? = some l → OfSh l vd.2) ∧ Rep [] (sizeAt W) W vd.2 vd.1 := by
              intro i j hi hj
              have h1 := hel i hi
              rw [List.getElem?_eq_getElem (by omega), Option.bind_eq_some_iff] at h1
              obtain ⟨cs', hcs, hy⟩ := h1
              obtain ⟨h2, h3⟩ := ih e ms he m cs' _ hy
              obtain ⟨v, d, h4, h5, h6⟩ := h3 j _ (List.getElem?_eq_getElem hj)
              rw [Nat.zero_add] at h4
              refine ⟨(v, d), ?_, fun l hl => ?_, h6⟩
              · have := (World.cells?_some hcs).2.2 j (by rw [hc]; exact hj)
                rw [add_add, hc] at this
                rw [this, h4]
              · rw [List.getElem?_eq_getElem hj] at hl
                rw [← Option.some.inj hl]; exact h5
            refine ⟨rfl, fun i l hi => ?_⟩
            rcases i with _ | i
            · obtain rfl := Option.some.inj hi
              let pick : Nat → Nat → Value × D := fun i j => if h : i < len ∧ j < ms.length then (each i j h.1 h.2).choose else (undef, .undef)
              have hp : ∀ i j, i < len → j < ms.length → W.cell? (a.add (i * ms.length + j)) = some (pick i j).1 ∧ (∀ l, ms[j]? = some l → OfSh l (pick i j).2) ∧ Rep [] (sizeAt W) W (pick i j).2 (pick i j).1 := by
                intro i j hi hj
                have : pick i j = (each i j hi hj).choose := dif_pos ⟨hi, hj⟩
                rw [this]; exact (each i j hi hj).choose_spec
              refine ⟨_, _, rfl, .rows ms ((List.range len).map fun i => (List.range ms.length).map fun j => (pick i j).2) ?_ ?_ ?_, rep_rows hpos hl (vv := fun i j => (pick i j).1) fun i j hi hj => ?_⟩
              · simp only [List.length_map, List.length_range]
                exact Nat.le_trans hl (by simpa [maxLen] using hm)
              · intro x hx
                simp only [List.mem_map, List.mem_range] at hx
                obtain ⟨i, hi, rfl⟩ := hx
                simp
              · intro x j l d hx hl' hd'
                simp only [List.mem_map, List.mem_range] at hx
                obtain ⟨i, hi, rfl⟩ := hx
                have hj := lt_of_get hl'
                rw [List.getElem?_map, List.getElem?_range hj] at hd'
                simp only [Option.map_some, Option.some.injEq] at hd'
                rw [← hd']; exact (hp i j hi hj).2.1 l hl'
              · obtain ⟨h1, h2, h3⟩ := hp i j hi hj
                exact ⟨h1, (h2 _ (List.getElem?_eq_getElem hj)).leaf, h3⟩
            · simp at hi
        · cases hs
      · cases hs
    · rename_i m e hu
      split at hs
      · rename_i ms he
        split at hs
        · rename_i hc
          obtain ⟨hc, htl⟩ := hc
          injection hs with hs; subst hs
          cases fuel with
          | zero => simp [DataW.trod] at hd
          | succ f =>
            have h1 : cs.length = P.cellsOf t ∧ ∃ ys, (List.range m).mapM (fun i => DataW.trod enc P W base spare held f e ((cs.drop (i * P.cellsOf e)).take (P.cellsOf e))) = some ys := by
              unfold DataW.trod at hd
              rw [hu] at hd
              by_cases hl : cs.length = P.cellsOf t
              · refine ⟨hl, ?_⟩
                cases hq : (List.range m).mapM (fun i => DataW.trod enc P W base spare held f e ((cs.drop (i * P.cellsOf e)).take (P.cellsOf e))) with
                | some ys => exact ⟨ys, rfl⟩
                | none =>
                  exfalso
                  split at hd <;> simp_all
              · exfalso
                split at hd <;> simp_all
            obtain ⟨hcl, ys, hys⟩ := h1
            have hyl := mapM_some_length hys
            rw [List.length_range] at hyl
            have h2 : ∀ j, j < m → Cells W ms cs ((0 + j) * ms.length) := by
              intro j hj
              have hy := mapM_some_get hys j j (List.getElem?_range hj)
              rw [List.getElem?_eq_getElem (by omega)] at hy
              obtain ⟨h3, h4⟩ := ih e ms he f _ _ hy
              rw [Nat.zero_add]
              rw [hc] at h4
              exact Cells.part h4 (Nat.le_refl _)
            have h5 := cells_rep m 0 h2
            rw [Nat.zero_mul] at h5
            exact ⟨hcl.trans htl, h5⟩
        · cases hs
      · cases hs
    · rename_i fs hu
      split at hs
      · rename_i ls0 hf
        split at hs
        · rename_i htl
          injection hs with hs; subst hs
          obtain ⟨xs, m, rfl, _, hcl, hxl, hx⟩ := DataW.trod_struct hu hd
          have h2 : ∀ g, g ∈ fs.toList → ∃ y, DataW.trod enc P W base spare held m g.type ((cs.drop g.offset).take (P.cellsOf g.type)) = some y := fun g hg => by
            obtain ⟨i, hi⟩ := List.getElem?_of_mem hg
            rw [Array.getElem?_toList] at hi
            have := hx i g hi
            have hlt : i < fs.size := (Array.getElem?_eq_some_iff.1 hi).1
            rw [List.getElem?_eq_getElem (by omega)] at this
            exact ⟨_, this⟩
          have key : ∀ (gs : List Field) (o : Nat) (ms : List Sh), (∀ g, g ∈ gs → g ∈ fs.toList) → fieldSh (shapes P n) P gs o = some ms → Cells W ms cs o := by
            intro gs
            induction gs with
            | nil => intro o ms _ hms; injection hms with hms; subst hms; exact fun i l hi => by simp at hi
            | cons g gs ihg =>
              intro o ms hsub hms
              rw [fieldSh] at hms
              split at hms
              · rename_i ls1 h3
                split at hms
                · rename_i h4
                  obtain ⟨h4, h5⟩ := h4
                  split at hms
                  · rename_i q hq
                    injection hms with hms; subst hms
                    obtain ⟨y, hy⟩ := h2 g (hsub g (by simp))
                    obtain ⟨_, h7⟩ := ih g.type ls1 h3 m _ _ hy
                    rw [h4, h5] at h7
                    exact Cells.app (Cells.part h7 (Nat.le_refl _)) (ihg _ _ (fun x hx => hsub x (by simp [hx])) hq)
                  · cases hms
                · cases hms
              · cases hms
          exact ⟨hcl.trans htl, key fs.toList 0 _ (fun _ h => h) hf⟩
        · cases hs
      · cases hs
    · cases hs

/-- A slice as an argument. -/
theorem arg_rows {r : Reach} {b0 n : Nat} {t e : TypeId} {ls : List Sh} {v : Value} {d : DataW H} {ps : List MemPlace} (hs : shapes P n t = some [.rows ls]) (ht : P.underlying t = some (.slice e)) (hval : Value.okWide P W r b0 t v) (hd : DataW.Trod enc P W base spare held t v d ps) :
    ∃ x : D, OfSh (.rows ls) x ∧ Rep [] (sizeAt W) W x v := by
  obtain ⟨fuel, hf⟩ := hd
  obtain ⟨a0, l0, c0, rfl⟩ := Go.WideShapes.okWide_slice ht hval
  obtain ⟨_, h⟩ := trod_cells n t _ hs fuel _ _ hf
  obtain ⟨w, x, h1, h2, h3⟩ := h 0 _ rfl
  simp [Value.cells] at h1
  subst h1
  exact ⟨x, h2, h3⟩

/-- How many elements a slice may have, by its weight. -/
theorem slice_le {r : Reach} {b0 sz : Nat} {t e : TypeId} {v : Value} {d : DataW H} {ps : List MemPlace} {xs : List D} (ht : P.underlying t = some (.slice e)) (hval : Value.okWide P W r b0 t v) (hd : DataW.Trod enc P W base spare held t v d ps)
    (hw : (d.weights P t).all (· ≤ reachBytes) = true) (hr : Rep [] (sizeAt W) W (.vec sz xs .none) v) : xs.length * P.bytesOf e ≤ 140737488351232 := by
  obtain ⟨fuel, hf⟩ := hd
  obtain ⟨a0, l0, c0, rfl⟩ := Go.WideShapes.okWide_slice ht hval
  have hl : l0 = xs.length := by
    cases hr with
    | nilv _ _ _ => rfl
    | vec _ _ _ _ _ _ _ _ _ _ _ _ => rfl
  rcases DataW.trod_slice ht hf with ⟨h1, _⟩ | ⟨a, len, cap, elems, rest, m, _, h1, h2, _, _, _, hlen, _⟩
  · simp [Value.cells] at h1
    obtain ⟨rfl, rfl, rfl⟩ := h1
    rw [← hl]; simp
  · simp [Value.cells] at h1
    obtain ⟨rfl, rfl, rfl⟩ := h1
    have hd : d = .slice (elems.map (·.1)) (rest.map (·.1)) := congrArg Prod.fst h2
    subst hd
    unfold DataW.weights at hw
    simp only [ht, List.all_cons, Bool.and_eq_true, decide_eq_true_eq, List.length_map] at hw
    have := hw.1
    rw [hlen] at this
    refine reach_le (Nat.le_trans ?_ this)
    rw [← hl]
    exact Nat.mul_le_mul_right _ (Nat.le_add_right _ _)

/-- A struct, or an array, as an argument. -/
theorem arg_struct {r : Reach} {b0 n : Nat} {t : TypeId} {ls : List Sh} {ts : List TypeId} {v : Value} {d : DataW H} {ps : List MemPlace} (hs : shapes P n t = some ls) (ha : isAggB P t = true) (hts : P.cellTypes P.depth t = some ts) (hval : Value.okWide P W r b0 t v) (hd : DataW.Trod enc P W base spare held t v d ps) :
    ∃ ds : List D, ds.length = ls.length ∧ (∀ (i : Nat) (l : Sh) (x : D), ls[i]? = some l → ds[i]? = some x → OfSh l x) ∧ Rep [] (sizeAt W) W (.agg ds) v := by
  obtain ⟨fuel, hf⟩ := hd
  obtain ⟨cs, rfl, hsz, _⟩ := arg_agg ha hts hval
  obtain ⟨hl, h⟩ := trod_cells n t _ hs fuel _ _ hf
  have hcl : (Value.agg cs).cells.toList = cs.toList := rfl
  rw [hcl] at hl h
  have each : ∀ i, i < ls.length → ∃ d : D, (∀ l, ls[i]? = some l → OfSh l d) ∧ ∃ v, cs[i]? = some v ∧ Rep [] (sizeAt W) W d v := by
    intro i hi
    obtain ⟨v, d, h1, h2, h3⟩ := h i _ (List.getElem?_eq_getElem hi)
    rw [Nat.zero_add, Array.getElem?_toList] at h1
    refine ⟨d, fun l hl => ?_, v, h1, h3⟩
    rw [List.getElem?_eq_getElem hi] at hl
    rw [← Option.some.inj hl]; exact h2
  let pick : Nat → D := fun i => if h : i < ls.length then (each i h).choose else .undef
  have hp : ∀ i, i < ls.length → (∀ l, ls[i]? = some l → OfSh l (pick i)) ∧ ∃ v, cs[i]? = some v ∧ Rep [] (sizeAt W) W (pick i) v := by
    intro i hi
    have : pick i = (each i hi).choose := dif_pos hi
    rw [this]; exact (each i hi).choose_spec
  refine ⟨(List.range ls.length).map pick, by simp, fun i l x h1 h2 => ?_, rep_agg (by simp; simpa using hl.symm) fun i d hi => ?_⟩
  · have hi := lt_of_get h1
    rw [List.getElem?_map, List.getElem?_range hi] at h2
    simp only [Option.map_some, Option.some.injEq] at h2
    rw [← h2]; exact (hp i hi).1 l h1
  · have hl := lt_of_get hi
    simp only [List.length_map, List.length_range] at hl
    rw [List.getElem?_map, List.getElem?_range hl] at hi
    simp only [Option.map_some, Option.some.injEq] at hi
    rw [← hi]; exact (hp i hl).2
end

/-- Elements of one form, as a list of what they are made of. -/
theorem map_of {α : Type} {f : α → D} {Q : α → Prop} : ∀ (xs : List (List D)), (∀ x, x ∈ xs → ∃ a, mkD x = f a ∧ Q a) → ∃ l : List α, xs.map mkD = l.map f ∧ (∀ a, a ∈ l → Q a) ∧ l.length = xs.length
  | [], _ => ⟨[], rfl, fun a ha => (by cases ha), rfl⟩
  | x :: xs, h => by
    obtain ⟨a, h1, h2⟩ := h x (by simp)
    obtain ⟨l, h3, h4, h5⟩ := map_of xs (fun y hy => h y (by simp [hy]))
    refine ⟨a :: l, by rw [List.map_cons, List.map_cons, h1, h3], fun b hb => ?_, by simp [h5]⟩
    rcases List.mem_cons.1 hb with rfl | hb
    · exact h2
    · exact h4 b hb

theorem OfSh.u8 {d : D} (h : OfSh (.int .u8) d) : ∃ n : Nat, d = .int .u8 n ∧ n < 256 := by
  cases h with
  | int k n h =>
    have := wf_u8 h
    exact ⟨n.toNat, by congr 1; omega, by omega⟩
theorem OfSh.u16 {d : D} (h : OfSh (.int .u16) d) : ∃ n : Nat, d = .int .u16 n ∧ n < 65536 := by
  cases h with
  | int k n h =>
    have : 0 ≤ n ∧ n ≤ 65535 := by simpa [Lit.wf, IntKind.min, IntKind.max, IntKind.bits, IntKind.signed] using h
    exact ⟨n.toNat, by congr 1; omega, by omega⟩
theorem OfSh.u32 {d : D} (h : OfSh (.int .u32) d) : ∃ n : Nat, d = .int .u32 n ∧ n < 4294967296 := by
  cases h with
  | int k n h =>
    have : 0 ≤ n ∧ n ≤ 4294967295 := by simpa [Lit.wf, IntKind.min, IntKind.max, IntKind.bits, IntKind.signed] using h
    exact ⟨n.toNat, by congr 1; omega, by omega⟩
theorem OfSh.u64 {d : D} (h : OfSh (.int .u64) d) : ∃ n : Nat, d = .int .u64 n ∧ n < 18446744073709551616 := by
  cases h with
  | int k n h =>
    have : 0 ≤ n ∧ n ≤ 18446744073709551615 := by simpa [Lit.wf, IntKind.min, IntKind.max, IntKind.bits, IntKind.signed] using h
    exact ⟨n.toNat, by congr 1; omega, by omega⟩
theorem OfSh.i64 {d : D} (h : OfSh (.int .i64) d) : ∃ n : Int, d = .int .i64 n ∧ -9223372036854775808 ≤ n ∧ n < 9223372036854775808 := by
  cases h with
  | int k n h =>
    have : -9223372036854775808 ≤ n ∧ n ≤ 9223372036854775807 := by simpa [Lit.wf, IntKind.min, IntKind.max, IntKind.bits, IntKind.signed] using h
    exact ⟨n, rfl, by omega, by omega⟩
theorem OfSh.i16 {d : D} (h : OfSh (.int .i16) d) : ∃ n : Int, d = .int .i16 n ∧ -32768 ≤ n ∧ n < 32768 := by
  cases h with
  | int k n h =>
    have : -32768 ≤ n ∧ n ≤ 32767 := by simpa [Lit.wf, IntKind.min, IntKind.max, IntKind.bits, IntKind.signed] using h
    exact ⟨n, rfl, by omega, by omega⟩
theorem OfSh.str' {d : D} (h : OfSh .str d) : ∃ s : List UInt8, d = .str s ∧ s.length ≤ 9223372036854775807 := by
  cases h with
  | str s h => exact ⟨s, rfl, h⟩
theorem OfSh.bool' {d : D} (h : OfSh .bool d) : ∃ b : Bool, d = .bool b := by
  cases h with
  | bool b => exact ⟨b, rfl⟩
theorem OfSh.rows' {ls : List Sh} {d : D} (h : OfSh (.rows ls) d) : ∃ xs : List (List D), d = .vec ls.length (xs.map mkD) .none ∧ xs.length ≤ 9223372036854775807 ∧ (∀ x, x ∈ xs → x.length = ls.length) ∧ ∀ (x : List D) (i : Nat) (l : Sh) (d : D), x ∈ xs → ls[i]? = some l → x[i]? = some d → OfSh l d := by
  cases h with
  | rows ls xs h1 h2 h3 => exact ⟨xs, rfl, h1, h2, h3⟩
theorem len1 {x : List D} (h : x.length = 1) : ∃ a, x = [a] := by
  match x, h with
  | [a], _ => exact ⟨a, rfl⟩
theorem len2 {x : List D} (h : x.length = 2) : ∃ a b, x = [a, b] := by
  match x, h with
  | [a, b], _ => exact ⟨a, b, rfl⟩
theorem len3 {x : List D} (h : x.length = 3) : ∃ a b c, x = [a, b, c] := by
  match x, h with
  | [a, b, c], _ => exact ⟨a, b, c, rfl⟩
theorem len4 {x : List D} (h : x.length = 4) : ∃ a b c d, x = [a, b, c, d] := by
  match x, h with
  | [a, b, c, d], _ => exact ⟨a, b, c, d, rfl⟩

theorem arg_u16 {H : Type} {enc : TypeId × Value → H} {P : Program} {r : Reach} {b0 base : Nat} {spare : Nat → Bool} {held : Bool} {t : TypeId} {v : Value} {d : DataW H} {ps : List MemPlace} {W : World} (ht : P.underlying t = some (.int .u16)) (hval : Value.okWide P W r b0 t v) (hd : DataW.Trod enc P W base spare held t v d ps) :
    ∃ n : Nat, n < 65536 ∧ Rep [] (sizeAt W) W (.int .u16 n) v := by
  obtain ⟨n, hn, rfl, hr⟩ := arg_int ht hval hd
  simp [IntKind.has, IntKind.min, IntKind.max, IntKind.bits, IntKind.signed] at hn
  refine ⟨n.toNat, by omega, ?_⟩
  rw [show ((n.toNat : Nat) : Int) = n by omega]; exact hr

theorem arg_i16 {H : Type} {enc : TypeId × Value → H} {P : Program} {r : Reach} {b0 base : Nat} {spare : Nat → Bool} {held : Bool} {t : TypeId} {v : Value} {d : DataW H} {ps : List MemPlace} {W : World} (ht : P.underlying t = some (.int .i16)) (hval : Value.okWide P W r b0 t v) (hd : DataW.Trod enc P W base spare held t v d ps) :
    ∃ n : Int, -32768 ≤ n ∧ n < 32768 ∧ Rep [] (sizeAt W) W (.int .i16 n) v := by
  obtain ⟨n, hn, rfl, hr⟩ := arg_int ht hval hd
  simp [IntKind.has, IntKind.min, IntKind.max, IntKind.bits, IntKind.signed] at hn
  exact ⟨n, by omega, by omega, hr⟩

end Go.Proofs.YtbbbhalmlboapaaDoor.V
