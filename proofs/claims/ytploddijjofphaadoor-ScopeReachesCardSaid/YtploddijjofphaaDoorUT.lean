/-
The operation 'call'.
-/
import Derived.Test.YtploddijjofphaaDoorUS
namespace Go.Proofs.YtploddijjofphaaDoor.V
set_option linter.unusedSimpArgs false
set_option linter.unusedVariables false
open Go Go.RowKit

variable {c : Cx} {g : Gh} {nL : Nat → Prop} {nT : Nat} {w : World}

theorem repOL_get {R : D → Value → List Nat → Prop} {ds : List D} {vs : List Value} {ks : List Nat} (h : RepOL R ds vs ks) : ds.length = vs.length ∧ ∀ (i : Nat) (d : D), ds[i]? = some d → ∃ v ls, vs[i]? = some v ∧ R d v ls := by
  induction h with
  | nil => exact ⟨rfl, fun i d hi => by simp at hi⟩
  | cons d v ks ds vs ls h _ ih =>
    refine ⟨by simp [ih.1], fun i e hi => ?_⟩
    cases i with
    | zero => simp at hi; subst hi; exact ⟨v, ks, rfl, h⟩
    | succ i => simp at hi; obtain ⟨u, l, h1, h2⟩ := ih.2 i e hi; exact ⟨u, l, by simpa using h1, h2⟩

theorem plain_get : ∀ {ds : List D}, D.plain.plainL ds = true → ∀ {i : Nat} {d : D}, ds[i]? = some d → d.plain = true
  | [], _, i, d, h => by simp at h
  | x :: xs, hp, i, d, h => by
    simp only [D.plain.plainL, Bool.and_eq_true] at hp
    cases i with
    | zero => simp at h; subst h; exact hp.1
    | succ i => exact plain_get hp.2 (by simpa using h)

theorem plain_repO {bx : List Nat} {s : Nat → Nat} {d : D} {v : Value} {ks : List Nat} (hp : d.plain = true) (h : RepO bx s w d v ks) {bx' : List Nat} (s' : Nat → Nat) (w' : World) : Rep bx' s' w' d v := by
  cases h with
  | clean _ _ h => exact plain_rep d hp h
  | fresh => simp [D.plain] at hp
  | tight => simp [D.plain] at hp

theorem plain_repC {bx : List Nat} {s : Nat → Nat} {d : D} {v : Value} {ks : List Nat} (hp : d.plain = true) (h : RepC bx s w d v ks) {bx' : List Nat} (s' : Nat → Nat) (w' : World) : Rep bx' s' w' d v := by
  cases h with
  | one _ _ _ h => exact plain_repO hp h s' w'
  | agg ds vs ks h =>
    simp only [D.plain] at hp
    obtain ⟨h1, h2⟩ := repOL_get h
    refine .agg _ _ (by simpa using h1) (fun i d hi => ?_)
    obtain ⟨u, ls, hu, hr⟩ := h2 i d hi
    simp [Array.getD_eq_getD_getElem?, hu]
    exact plain_repO (plain_get hp hi) hr s' w'

theorem plain_repR {bx : List Nat} {s : Nat → Nat} {d : D} {v : Value} {ks : List Nat} (hp : d.plain = true) (h : RepR bx s w d v ks) (g : Gh) (nL : Nat → Prop) (nT : Nat) (w' : World) : RepF c g nL nT w' d v := by
  cases h with
  | one _ _ _ h => exact .clean _ _ (plain_repC hp h _ _)
  | tuple ds vs ks h =>
    simp only [D.plain] at hp
    obtain ⟨h1, h2⟩ := repOL_get h
    refine .tuple _ _ (by simpa using h1) (fun i d hi => ?_)
    obtain ⟨u, ls, hu, hr⟩ := h2 i d hi
    simp [Array.getD_eq_getD_getElem?, hu]
    exact .clean _ _ (plain_repC (plain_get hp hi) hr _ _)

/-! ### What is lent -/
open Classical in
/-- While a call runs, this frame's own boxes stay what they are. -/
noncomputable def lend (g : Gh) (L : List (Option (List D))) (w : World) : Nat → Nat := fun k =>
  if ∃ i ds, L[i]? = some (some ds) ∧ g.loc i = k then (match w.heap[k]? with | some (.cells cs _ _) => cs.size | _ => 0) else g.s k

theorem lend_le {L : List (Option (List D))} {τ : List Bool} {B : List (List D)} (h : FS c g L τ B w) (k : Nat) : g.s k ≤ lend g L w k := by
  unfold lend
  split
  · rename_i hk
    obtain ⟨i, ds, hi, rfl⟩ := hk
    rw [(h.boxL i ds hi).1]; exact Nat.zero_le _
  · exact Nat.le_refl _

theorem lend_zero {L : List (Option (List D))} {τ : List Bool} {B : List (List D)} (h : FS c g L τ B w) (k : Nat) (hk : w.heap.size ≤ k) : lend g L w k = 0 := by
  unfold lend
  split
  · rename_i hk'
    obtain ⟨i, ds, hi, rfl⟩ := hk'
    exact absurd (h.lt (x := .l i) ⟨ds, hi⟩) (Nat.not_lt.2 hk)
  · exact h.zero k hk

theorem lend_box {L : List (Option (List D))} {τ : List Bool} {B : List (List D)} (h : FS c g L τ B w) (b k : Nat) (hb : g.bx[b]? = some k) : lend g L w k = 0 := by
  unfold lend
  split
  · rename_i hk'
    obtain ⟨i, ds, hi, he⟩ := hk'
    have := h.inj (.l i) (.b b) ⟨ds, hi⟩ (lt_of_get hb) (he.trans (bx_getD hb).symm)
    cases this
  · obtain ⟨_, _, h0, _⟩ := h.boxAt hb
    exact h0

theorem borrow_spec {st : St} {x e : D} {v : Value} (hf : FS c g st.L st.τ st.B w) (h : st.borrow x = some e) (hr : RepF c g (dom st.L) st.τ.length w x v) :
    Rep g.bx (lend g st.L w) w e v ∧ (x.isLsl = false → Rep g.bx g.s w e v) := by
  have hev : Ev g.bx g.s w g.bx (lend g st.L w) w := ⟨fun _ _ h => h, fun k _ => lend_le hf k, fun _ _ _ _ h => h⟩
  have other : ∀ {y : D}, y.demoteC = some e → RepF c g (dom st.L) st.τ.length w y v → Rep g.bx (lend g st.L w) w e v ∧ (y.isLsl = false → Rep g.bx g.s w e v) := fun h hr => by
    have := demoteC_clean h hr
    exact ⟨this.mono hev, fun _ => this⟩
  cases x <;> simp only [St.borrow] at h
  case lsl i off len sz =>
    cases hsz : Nat.beq sz 1 with
    | false => simp [hsz] at h
    | true =>
      simp only [hsz, cond_true] at h
      have hsz := beq_of hsz
      subst hsz
      split at h
      · rename_i ds hL
        split at h
        · rename_i hfit
          cases hg : ds.all D.global with
          | false => simp [hg] at h
          | true =>
            simp only [hg, cond_true, Option.some.injEq] at h
            subst h
            refine ⟨?_, fun h => by simp [D.isLsl] at h⟩
            have hel : st.elems 1 (.lsl i off len 1) = some ((ds.drop off).take len) := by simp [St.elems, hL, hfit, hg]
            obtain ⟨us, hrow⟩ := elems_spec (P := c.P) hf hr hel
            obtain ⟨cap, rfl, hi, hcap⟩ := hr.lsl_inv
            obtain ⟨h0, cs, t, fr, hh, _, hc⟩ := hf.boxL i ds hL
            have hlen : ((ds.drop off).take len).length = len := by simp; omega
            have hgl : ∀ d, d ∈ ds → d.global = true := List.all_eq_true.1 hg
            have hcl : cellsL ((ds.drop off).take len) = (ds.drop off).take len := cellsL_leaf (fun d hd => global_leaf (hgl d (List.mem_of_mem_drop (List.mem_of_mem_take hd))))
            have hsz : ds.length ≤ cs.size := by
              rcases Nat.eq_zero_or_pos ds.length with h | h
              · omega
              · obtain ⟨v, hv, _⟩ := hc (ds.length - 1) _ (List.getElem?_eq_getElem (by omega))
                have := (Array.getElem?_eq_some_iff.1 hv).1; omega
            have hat : ∀ (j : Nat) (d : D), ((ds.drop off).take len)[j]? = some d → cs[off + j]? = some (cs.getD (off + j) Go.undef) ∧ Rep g.bx g.s w d (cs.getD (off + j) Go.undef) := fun j d hj => by
              have hlt := lt_of_get hj
              rw [List.getElem?_take_of_lt (by omega), List.getElem?_drop] at hj
              obtain ⟨u, hu, hru⟩ := hc _ _ hj
              simp [Array.getD_eq_getD_getElem?, hu]
              exact global_clean (hgl _ (List.mem_of_getElem? hj)) hru
            have := Rep.vec (bx := g.bx) (s := lend g st.L w) (w := w) 1 ((ds.drop off).take len) .none ⟨g.loc i, off, none⟩ cap (fun j => cs.getD (off + j) Go.undef) (.inl rfl) (by omega) hrow.ok
              (fun j d hj => by
                rw [hcl] at hj
                have h := (hat j d hj).1
                rw [add_plain]
                show w.cell? ⟨g.loc i, off + j, none⟩ = some (cs.getD (off + j) Go.undef)
                generalize cs.getD (off + j) Go.undef = u at h ⊢
                simp [World.cell?, hh, h])
              (fun j d hj => by rw [hcl] at hj; exact (hat j d hj).2.mono hev)
              (fun _ => by
                show off + _ * 1 ≤ lend g st.L w (g.loc i)
                have : lend g st.L w (g.loc i) = cs.size := by
                  unfold lend
                  rw [if_pos ⟨i, ds, hL, rfl⟩, hh]
                rw [this, hlen]; omega)
            rw [hlen] at this
            exact this
        · cases h
      · cases h
  all_goals exact other h hr

theorem borrowL_spec {st : St} (hf : FS c g st.L st.τ st.B w) : ∀ {xs es : List D} {vs : List Value}, st.borrowL xs = some es → xs.length = vs.length → (∀ (i : Nat) (d : D), xs[i]? = some d → ∃ v, vs[i]? = some v ∧ RepF c g (dom st.L) st.τ.length w d v) →
    es.length = vs.length ∧ ∀ (i : Nat) (e : D), es[i]? = some e → ∃ v, vs[i]? = some v ∧ Rep g.bx (lend g st.L w) w e v ∧ (xs.any D.isLsl = false → Rep g.bx g.s w e v)
  | [], es, vs, h, hl, _ => by simp [St.borrowL] at h; subst h; exact ⟨hl, fun i e hi => by simp at hi⟩
  | x :: xs, es, [], h, hl, _ => by simp at hl
  | x :: xs, es, v :: vs, h, hl, hr => by
    simp only [St.borrowL] at h
    split at h
    · rename_i y hy
      split at h
      · rename_i ys hys
        injection h with h; subst h
        obtain ⟨v', hv', hrx⟩ := hr 0 x rfl
        simp at hv'; subst hv'
        obtain ⟨b1, b2⟩ := borrow_spec hf hy hrx
        obtain ⟨h1, h2⟩ := borrowL_spec hf hys (by simpa using hl) (fun i d hi => by obtain ⟨v, hv, hr⟩ := hr (i + 1) d (by simpa using hi); exact ⟨v, by simpa using hv, hr⟩)
        refine ⟨by simp [h1], fun i e hi => ?_⟩
        cases i with
        | zero => simp at hi; subst hi; exact ⟨v, rfl, b1, fun h => b2 (by simp at h; exact h.1)⟩
        | succ i =>
          simp at hi
          obtain ⟨u, h3, h4, h5⟩ := h2 i e hi
          exact ⟨u, by simpa using h3, h4, fun h => h5 (by simp at h ⊢; exact h.2)⟩
      · cases h
    · cases h

/-- What a callee gets that may append to this call's own rows. -/
theorem moveL_spec {st : St} (hf : FS c g st.L st.τ st.B w) : ∀ {xs es : List D} {τ τ' : List Bool} {vs : List Value}, (∀ i : Nat, τ[i]? = some true → st.τ[i]? = some true) → moveL st τ xs = some (es, τ') → xs.any D.isLsl = false → xs.length = vs.length → (∀ (i : Nat) (d : D), xs[i]? = some d → ∃ v, vs[i]? = some v ∧ RepF c g (dom st.L) st.τ.length w d v) →
    ∃ ks, RepOL (RepC g.bx g.s w) es vs ks ∧ ks.Nodup ∧ τ'.length = τ.length ∧ (∀ i : Nat, τ'[i]? = some true → τ[i]? = some true) ∧ ∀ k, k ∈ ks → ∃ i : Nat, τ[i]? = some true ∧ τ'[i]? ≠ some true ∧ g.ow i = true ∧ g.tk i = k
  | [], es, τ, τ', vs, _, h, _, hl, _ => by
    simp [moveL] at h
    obtain ⟨rfl, rfl⟩ := h
    cases vs with
    | nil => exact ⟨[], .nil, List.nodup_nil, rfl, fun _ h => h, fun k hk => by cases hk⟩
    | cons _ _ => simp at hl
  | x :: xs, es, τ, τ', [], _, h, _, hl, _ => by simp at hl
  | x :: xs, es, τ, τ', v :: vs, hsub, h, hany, hl, hr => by
    obtain ⟨v', hv', hrx⟩ := hr 0 x rfl
    simp at hv'; subst hv'
    have hr' : ∀ (i : Nat) (d : D), xs[i]? = some d → ∃ v, vs[i]? = some v ∧ RepF c g (dom st.L) st.τ.length w d v := fun i d hi => by
      obtain ⟨u, hu, hr⟩ := hr (i + 1) d (by simpa using hi)
      exact ⟨u, by simpa using hu, hr⟩
    have hl' : xs.length = vs.length := by simpa using hl
    simp only [List.any_cons, Bool.or_eq_false_iff] at hany
    -- one that takes no row
    have plain : ∀ {e : D} {es' : List D}, RepC g.bx g.s w e v [] → moveL st τ xs = some (es', τ') → es = e :: es' → ∃ ks, RepOL (RepC g.bx g.s w) es (v :: vs) ks ∧ ks.Nodup ∧ τ'.length = τ.length ∧ (∀ i : Nat, τ'[i]? = some true → τ[i]? = some true) ∧ ∀ k, k ∈ ks → ∃ i : Nat, τ[i]? = some true ∧ τ'[i]? ≠ some true ∧ g.ow i = true ∧ g.tk i = k := fun h1 h2 h3 => by
      obtain ⟨ks, a1, a2, a3, a4, a5⟩ := moveL_spec hf hsub h2 hany.2 hl' hr'
      subst h3
      exact ⟨[] ++ ks, .cons _ _ _ _ _ _ h1 a1, by simpa using a2, a3, a4, by simpa using a5⟩
    simp only [moveL] at h
    split at h
    · rename_i sz ys i
      split at h
      · rename_i hti
        split at h
        · rename_i es' τ2 h2
          injection h with h; injection h with e1 e2; subst e1; subst e2
          have hsub2 : ∀ j : Nat, (τ.set i false)[j]? = some true → τ[j]? = some true ∧ j ≠ i := fun j hj => by
            by_cases hij : i = j
            · subst hij; rw [List.getElem?_set] at hj; simp at hj
            · rw [List.getElem?_set_ne hij] at hj; exact ⟨hj, fun e => hij e.symm⟩
          obtain ⟨ks, a1, a2, a3, a4, a5⟩ := moveL_spec hf (fun j hj => hsub j (hsub2 j hj).1) h2 hany.2 hl' hr'
          have a3' : τ2.length = τ.length := by rw [a3]; simp
          have a4' : ∀ j : Nat, τ2[j]? = some true → τ[j]? = some true ∧ j ≠ i := fun j hj => hsub2 j (a4 j hj)
          have a5' : ∀ k, k ∈ ks → ∃ j : Nat, τ[j]? = some true ∧ j ≠ i ∧ τ2[j]? ≠ some true ∧ g.ow j = true ∧ g.tk j = k := fun k hk => by
            obtain ⟨j, b1, b2, b3, b4⟩ := a5 k hk
            exact ⟨j, (hsub2 j b1).1, (hsub2 j b1).2, b2, b3, b4⟩
          have hti2 := hsub i hti
          obtain ⟨hi, hcl, ⟨rfl, hex⟩ | ⟨how, cap, rfl, hen, hbs⟩⟩ := hrx.own_inv
          · refine ⟨[] ++ ks, .cons _ _ _ _ _ _ (.one _ _ _ (.tight _ _ hex)) a1, by simpa using a2, a3', fun j hj => (a4' j hj).1, fun k hk => ?_⟩
            obtain ⟨j, b1, _, b2, b3, b4⟩ := a5' k (by simpa using hk)
            exact ⟨j, b1, b2, b3, b4⟩
          · obtain ⟨b1, cs, t, b2, b3⟩ := hf.tok i hti2 how
            refine ⟨[g.tk i] ++ ks, .cons _ _ _ _ _ _ (.one _ _ _ (.fresh sz ys (g.tk i) cap cs t hcl (b1.trans hen.symm) b2 (b3.trans hbs.symm))) a1, ?_, a3', fun j hj => (a4' j hj).1, fun k hk => ?_⟩
            · refine List.nodup_cons.2 ⟨fun hm => ?_, a2⟩
              obtain ⟨j, c1, c2, _, c3, c4⟩ := a5' _ hm
              have := hf.inj (.t j) (.t i) ⟨hsub j c1, c3⟩ ⟨hti2, how⟩ c4
              injection this with this
              exact c2 this
            · rcases List.mem_append.1 hk with hk | hk
              · simp at hk; subst hk
                exact ⟨i, hti, fun hc => (a4' i hc).2 rfl, how, rfl⟩
              · obtain ⟨j, c1, _, c2, c3, c4⟩ := a5' k hk
                exact ⟨j, c1, c2, c3, c4⟩
        · cases h
      · cases h
    · split at h
      · rename_i sz ys _ es' τ2 h2
        injection h with h; injection h with e1 e2; subst e1; subst e2
        refine plain (.one _ _ _ ?_) h2 rfl
        cases ys with
        | nil => exact .tight _ _ hrx.exact_inv
        | cons _ _ => exact .clean _ _ hrx.exact_inv.to_none
      · cases h
    · split at h
      · rename_i e he
        split at h
        · rename_i es' τ2 h2
          injection h with h; injection h with e1 e2; subst e1; subst e2
          exact plain (.one _ _ _ (.clean _ _ ((borrow_spec hf he hrx).2 hany.1))) h2 rfl
        · cases h
      · cases h

end Go.Proofs.YtploddijjofphaaDoor.V
