/-
The operation 'call'.
-/
import Derived.Test.YtdmlojinmkcldaaDoorVS
namespace Go.Proofs.YtdmlojinmkcldaaDoor.V
set_option linter.unusedSimpArgs false
set_option linter.unusedVariables false
open Go Go.RowKit

variable {c : Cx} {g : Gh} {nL : Nat → Prop} {nT : Nat} {w : World}

theorem repOL_get {R : D → Value → List Nat → Prop} {ds : List D} {vs : List Value} {ks : List Nat} (h : RepOL R ds vs ks) : ds.length = vs.length ∧ ∀ (i : Nat) (d : D), ds[i]? = some d → ∃ v ls, vs[i]? = some v ∧ R d v ls := by
  induction h with
  | nil => exact ⟨rfl, fun i d hi => by simp at hi⟩
  | cons d v ks ds vs ls h _ ih =>
    refine ⟨by simp [ih.1], fun i e hi => ?_⟩
    cases i with
    | zero => simp at hi; subst hi; exact ⟨v, ks, rfl, h⟩
    | succ i => simp at hi; obtain ⟨u, l, h1, h2⟩ := ih.2 i e hi; exact ⟨u, l, by simpa using h1, h2⟩

theorem plain_get : ∀ {ds : List D}, D.plain.plainL ds = true → ∀ {i : Nat} {d : D}, ds[i]? = some d → d.plain = true
  | [], _, i, d, h => by simp at h
  | x :: xs, hp, i, d, h => by
    simp only [D.plain.plainL, Bool.and_eq_true] at hp
    cases i with
    | zero => simp at h; subst h; exact hp.1
    | succ i => exact plain_get hp.2 (by simpa using h)

theorem plain_repO {bx s : Nat → Nat} {d : D} {v : Value} {ks : List Nat} (hp : d.plain = true) (h : RepO bx s w d v ks) (s' : Nat → Nat) (w' : World) : Rep bx s' w' d v := by
  cases h with
  | clean _ _ h => exact plain_rep d hp h
  | fresh => simp [D.plain] at hp

theorem plain_repC {bx s : Nat → Nat} {d : D} {v : Value} {ks : List Nat} (hp : d.plain = true) (h : RepC bx s w d v ks) (s' : Nat → Nat) (w' : World) : Rep bx s' w' d v := by
  cases h with
  | one _ _ _ h => exact plain_repO hp h s' w'
  | agg ds vs ks h =>
    simp only [D.plain] at hp
    obtain ⟨h1, h2⟩ := repOL_get h
    refine .agg _ _ (by simpa using h1) (fun i d hi => ?_)
    obtain ⟨u, ls, hu, hr⟩ := h2 i d hi
    simp [Array.getD_eq_getD_getElem?, hu]
    exact plain_repO (plain_get hp hi) hr s' w'

theorem plain_repR {s : Nat → Nat} {d : D} {v : Value} {ks : List Nat} (hp : d.plain = true) (h : RepR c.bx s w d v ks) (g : Gh) (nL : Nat → Prop) (nT : Nat) (w' : World) : RepF c g nL nT w' d v := by
  cases h with
  | one _ _ _ h => exact .clean _ _ (plain_repC hp h _ _)
  | tuple ds vs ks h =>
    simp only [D.plain] at hp
    obtain ⟨h1, h2⟩ := repOL_get h
    refine .tuple _ _ (by simpa using h1) (fun i d hi => ?_)
    obtain ⟨u, ls, hu, hr⟩ := h2 i d hi
    simp [Array.getD_eq_getD_getElem?, hu]
    exact .clean _ _ (plain_repC (plain_get hp hi) hr _ _)

/-! ### What is lent -/
open Classical in
/-- While a call runs, this frame's own boxes stay what they are. -/
noncomputable def lend (g : Gh) (L : List (Option (List D))) (w : World) : Nat → Nat := fun k =>
  if ∃ i ds, L[i]? = some (some ds) ∧ g.loc i = k then (match w.heap[k]? with | some (.cells cs _ _) => cs.size | _ => 0) else g.s k

theorem lend_le {L : List (Option (List D))} {τ : List Bool} {B : List (List D)} (h : FS c g L τ B w) (k : Nat) : g.s k ≤ lend g L w k := by
  unfold lend
  split
  · rename_i hk
    obtain ⟨i, ds, hi, rfl⟩ := hk
    rw [(h.boxL i ds hi).1]; exact Nat.zero_le _
  · exact Nat.le_refl _

theorem lend_zero {L : List (Option (List D))} {τ : List Bool} {B : List (List D)} (h : FS c g L τ B w) (k : Nat) (hk : w.heap.size ≤ k) : lend g L w k = 0 := by
  unfold lend
  split
  · rename_i hk'
    obtain ⟨i, ds, hi, rfl⟩ := hk'
    exact absurd (h.lt (x := .l i) ⟨ds, hi⟩) (Nat.not_lt.2 hk)
  · exact h.zero k hk

theorem lend_box {L : List (Option (List D))} {τ : List Bool} {B : List (List D)} (h : FS c g L τ B w) (b : Nat) (hb : b < B.length) : lend g L w (c.bx b) = 0 := by
  unfold lend
  split
  · rename_i hk'
    obtain ⟨i, ds, hi, he⟩ := hk'
    have := h.inj (.l i) (.b b) ⟨ds, hi⟩ hb he
    cases this
  · exact (h.boxB b _ (List.getElem?_eq_getElem hb)).1

theorem borrow_spec {st : St} {x e : D} {v : Value} (hf : FS c g st.L st.τ st.B w) (h : st.borrow x = some e) (hr : RepF c g (dom st.L) st.τ.length w x v) :
    Rep c.bx (lend g st.L w) w e v ∧ (x.isLsl = false → Rep c.bx g.s w e v) := by
  have hev : Ev c.bx g.s w c.bx (lend g st.L w) w := ⟨fun _ => rfl, fun k _ => lend_le hf k, fun _ _ _ _ h => h⟩
  have other : ∀ {y : D}, y.demoteC = some e → RepF c g (dom st.L) st.τ.length w y v → Rep c.bx (lend g st.L w) w e v ∧ (y.isLsl = false → Rep c.bx g.s w e v) := fun h hr => by
    have := demoteC_clean h hr
    exact ⟨this.mono hev, fun _ => this⟩
  cases x <;> simp only [St.borrow] at h
  case lsl i off len sz =>
    cases hsz : Nat.beq sz 1 with
    | false => simp [hsz] at h
    | true =>
      simp only [hsz, cond_true] at h
      have hsz := beq_of hsz
      subst hsz
      split at h
      · rename_i ds hL
        split at h
        · rename_i hfit
          cases hg : ds.all D.global with
          | false => simp [hg] at h
          | true =>
            simp only [hg, cond_true, Option.some.injEq] at h
            subst h
            refine ⟨?_, fun h => by simp [D.isLsl] at h⟩
            have hel : st.elems 1 (.lsl i off len 1) = some ((ds.drop off).take len) := by simp [St.elems, hL, hfit, hg]
            obtain ⟨us, hrow⟩ := elems_spec (P := c.P) hf hr hel
            obtain ⟨cap, rfl, hi, hcap⟩ := hr.lsl_inv
            obtain ⟨h0, cs, t, fr, hh, _, hc⟩ := hf.boxL i ds hL
            have hlen : ((ds.drop off).take len).length = len := by simp; omega
            have hgl : ∀ d, d ∈ ds → d.global = true := List.all_eq_true.1 hg
            have hcl : cellsL ((ds.drop off).take len) = (ds.drop off).take len := cellsL_leaf (fun d hd => global_leaf (hgl d (List.mem_of_mem_drop (List.mem_of_mem_take hd))))
            have hsz : ds.length ≤ cs.size := by
              rcases Nat.eq_zero_or_pos ds.length with h | h
              · omega
              · obtain ⟨v, hv, _⟩ := hc (ds.length - 1) _ (List.getElem?_eq_getElem (by omega))
                have := (Array.getElem?_eq_some_iff.1 hv).1; omega
            have hat : ∀ (j : Nat) (d : D), ((ds.drop off).take len)[j]? = some d → cs[off + j]? = some (cs.getD (off + j) Go.undef) ∧ Rep c.bx g.s w d (cs.getD (off + j) Go.undef) := fun j d hj => by
              have hlt := lt_of_get hj
              rw [List.getElem?_take_of_lt (by omega), List.getElem?_drop] at hj
              obtain ⟨u, hu, hru⟩ := hc _ _ hj
              simp [Array.getD_eq_getD_getElem?, hu]
              exact global_clean (hgl _ (List.mem_of_getElem? hj)) hru
            have := Rep.vec (bx := c.bx) (s := lend g st.L w) (w := w) 1 ((ds.drop off).take len) .none ⟨g.loc i, off, none⟩ cap (fun j => cs.getD (off + j) Go.undef) (.inl rfl) (by omega) hrow.ok
              (fun j d hj => by
                rw [hcl] at hj
                have h := (hat j d hj).1
                rw [add_plain]
                show w.cell? ⟨g.loc i, off + j, none⟩ = some (cs.getD (off + j) Go.undef)
                generalize cs.getD (off + j) Go.undef = u at h ⊢
                simp [World.cell?, hh, h])
              (fun j d hj => by rw [hcl] at hj; exact (hat j d hj).2.mono hev)
              (fun _ => by
                show off + _ * 1 ≤ lend g st.L w (g.loc i)
                have : lend g st.L w (g.loc i) = cs.size := by
                  unfold lend
                  rw [if_pos ⟨i, ds, hL, rfl⟩, hh]
                rw [this, hlen]; omega)
            rw [hlen] at this
            exact this
        · cases h
      · cases h
  all_goals exact other h hr

theorem borrowL_spec {st : St} (hf : FS c g st.L st.τ st.B w) : ∀ {xs es : List D} {vs : List Value}, st.borrowL xs = some es → xs.length = vs.length → (∀ (i : Nat) (d : D), xs[i]? = some d → ∃ v, vs[i]? = some v ∧ RepF c g (dom st.L) st.τ.length w d v) →
    es.length = vs.length ∧ ∀ (i : Nat) (e : D), es[i]? = some e → ∃ v, vs[i]? = some v ∧ Rep c.bx (lend g st.L w) w e v ∧ (xs.any D.isLsl = false → Rep c.bx g.s w e v)
  | [], es, vs, h, hl, _ => by simp [St.borrowL] at h; subst h; exact ⟨hl, fun i e hi => by simp at hi⟩
  | x :: xs, es, [], h, hl, _ => by simp at hl
  | x :: xs, es, v :: vs, h, hl, hr => by
    simp only [St.borrowL] at h
    split at h
    · rename_i y hy
      split at h
      · rename_i ys hys
        injection h with h; subst h
        obtain ⟨v', hv', hrx⟩ := hr 0 x rfl
        simp at hv'; subst hv'
        obtain ⟨b1, b2⟩ := borrow_spec hf hy hrx
        obtain ⟨h1, h2⟩ := borrowL_spec hf hys (by simpa using hl) (fun i d hi => by obtain ⟨v, hv, hr⟩ := hr (i + 1) d (by simpa using hi); exact ⟨v, by simpa using hv, hr⟩)
        refine ⟨by simp [h1], fun i e hi => ?_⟩
        cases i with
        | zero => simp at hi; subst hi; exact ⟨v, rfl, b1, fun h => b2 (by simp at h; exact h.1)⟩
        | succ i =>
          simp at hi
          obtain ⟨u, h3, h4, h5⟩ := h2 i e hi
          exact ⟨u, by simpa using h3, h4, fun h => h5 (by simp at h ⊢; exact h.2)⟩
      · cases h
    · cases h

end Go.Proofs.YtdmlojinmkcldaaDoor.V
