import Derived.Test.YtbbbhalmlboapaaDoorUW
/-
What a call hands back; functions.
-/
namespace Go.Proofs.YtbbbhalmlboapaaDoor.V
set_option linter.unusedSimpArgs false
set_option linter.unusedVariables false
open Go Go.RowKit

variable {c : Cx} {g : Gh} {w : World}

structure Outs (g : Gh) (τ τ' : List Bool) (ks : List Nat) : Prop where
  sub : ∀ i : Nat, τ'[i]? = some true → τ[i]? = some true
  nd : ks.Nodup
  mem : ∀ k, k ∈ ks → ∃ i : Nat, τ[i]? = some true ∧ τ'[i]? ≠ some true ∧ g.ow i = true ∧ g.tk i = k

theorem Outs.nil (g : Gh) (τ : List Bool) : Outs g τ τ [] := ⟨fun _ h => h, List.nodup_nil, fun k hk => by cases hk⟩

/-- What is known of the frame's own rows. -/
structure Toks (g : Gh) (w : World) (τ : List Bool) : Prop where
  inj : ∀ i j : Nat, τ[i]? = some true → τ[j]? = some true → g.ow i = true → g.ow j = true → g.tk i = g.tk j → i = j
  tok : ∀ i : Nat, τ[i]? = some true → g.ow i = true → g.s (g.tk i) = g.en i ∧ ∃ (cs : Array Value) (t : TypeId), w.heap[g.tk i]? = some (.cells cs t (0, 0)) ∧ cs.size = g.bs i

theorem Toks.sub {τ τ' : List Bool} (h : Toks g w τ) (hs : ∀ i : Nat, τ'[i]? = some true → τ[i]? = some true) : Toks g w τ' :=
  ⟨fun i j hi hj hw hw' he => h.inj i j (hs i hi) (hs j hj) hw hw' he, fun i hi hw => h.tok i (hs i hi) hw⟩

theorem Outs.trans {τ τ1 τ2 : List Bool} {ks ls : List Nat} (ht : Toks g w τ) (h1 : Outs g τ τ1 ks) (h2 : Outs g τ1 τ2 ls) : Outs g τ τ2 (ks ++ ls) := by
  refine ⟨fun i hi => h1.sub i (h2.sub i hi), List.nodup_append.2 ⟨h1.nd, h2.nd, fun k hk l hl he => ?_⟩, fun k hk => ?_⟩
  · subst he
    obtain ⟨i, a1, a2, aw, a3⟩ := h1.mem k hk
    obtain ⟨j, b1, b2, bw, b3⟩ := h2.mem k hl
    have := ht.inj i j a1 (h1.sub j b1) aw bw (a3.trans b3.symm)
    subst this
    exact a2 b1
  · rcases List.mem_append.1 hk with hk | hk
    · obtain ⟨i, a1, a2, aw, a3⟩ := h1.mem k hk
      exact ⟨i, a1, fun h => a2 (h2.sub i h), aw, a3⟩
    · obtain ⟨i, a1, a2, aw, a3⟩ := h2.mem k hk
      exact ⟨i, h1.sub i a1, a2, aw, a3⟩

theorem outD_spec {nL : Nat → Prop} {nT : Nat} {τ τ' : List Bool} {d e : D} {v : Value} (ht : Toks g w τ) (h : outD τ d = some (e, τ')) (hr : RepF c g nL nT w d v) : ∃ ks, RepO g.bx g.s w e v ks ∧ Outs g τ τ' ks := by
  have clean : ∀ {x : D}, x.demote = some e → τ' = τ → RepF c g nL nT w x v → ∃ ks, RepO g.bx g.s w e v ks ∧ Outs g τ τ' ks := fun h1 h2 hr => ⟨[], .clean _ _ (demote_clean h1 hr), by rw [h2]; exact .nil g τ⟩
  unfold outD at h
  split at h
  · rename_i sz xs i
    have hsub : ∀ j : Nat, (τ.set i false)[j]? = some true → τ[j]? = some true := fun j hj => by
      by_cases hij : i = j
      · subst hij; rw [List.getElem?_set] at hj; simp at hj
      · rw [List.getElem?_set_ne hij] at hj; exact hj
    obtain ⟨hi, hc, hcase⟩ := hr.own_inv
    split at h
    · rename_i hti
      injection h with h; injection h with h1 h2; subst h1; subst h2
      rcases hcase with ⟨rfl, hex⟩ | ⟨how, cap, rfl, hen, hbs⟩
      · exact ⟨[], .tight _ _ hex, hsub, List.nodup_nil, fun k hk => by cases hk⟩
      · obtain ⟨b1, cs, t, b2, b3⟩ := ht.tok i hti how
        refine ⟨[g.tk i], .fresh sz xs (g.tk i) cap cs t hc (b1.trans hen.symm) b2 (b3.trans hbs.symm), hsub, by simp, fun k hk => ?_⟩
        simp at hk; subst hk
        refine ⟨i, hti, ?_, how, rfl⟩
        rw [List.getElem?_set_self (lt_of_get hti)]; simp
    · injection h with h; injection h with h1 h2; subst h1; subst h2
      exact ⟨[], .clean _ _ hc, .nil g τ⟩
  · rename_i sz xs
    injection h with h; injection h with h1 h2; subst h1; subst h2
    refine ⟨[], ?_, .nil g τ⟩
    cases xs with
    | nil => exact .tight _ _ hr.exact_inv
    | cons _ _ => exact .clean _ _ hr.exact_inv.to_none
  · split at h
    · rename_i e' he
      injection h with h; injection h with h1 h2; subst h1
      exact clean he h2.symm hr
    · cases h

theorem outL_spec {nL : Nat → Prop} {nT : Nat} : ∀ {ds es : List D} {τ τ' : List Bool} {vs : List Value}, Toks g w τ → outL τ ds = some (es, τ') → ds.length = vs.length → (∀ (i : Nat) (d : D), ds[i]? = some d → ∃ v, vs[i]? = some v ∧ RepF c g nL nT w d v) →
    ∃ ks, RepOL (RepO g.bx g.s w) es vs ks ∧ Outs g τ τ' ks
  | [], es, τ, τ', vs, _, h, hl, _ => by
    simp [outL] at h
    obtain ⟨rfl, rfl⟩ := h
    cases vs with
    | nil => exact ⟨[], .nil, .nil g _⟩
    | cons _ _ => simp at hl
  | d :: ds, es, τ, τ', [], _, h, hl, _ => by simp at hl
  | d :: ds, es, τ, τ', v :: vs, ht, h, hl, hr => by
    simp only [outL] at h
    split at h
    · rename_i y τ1 h1
      split at h
      · rename_i ys τ2 h2
        injection h with h; injection h with e1 e2; subst e1; subst e2
        obtain ⟨v', hv', hrx⟩ := hr 0 d rfl
        simp at hv'; subst hv'
        obtain ⟨ks, a1, a2⟩ := outD_spec ht h1 hrx
        obtain ⟨ls, b1, b2⟩ := outL_spec (ht.sub a2.sub) h2 (by simpa using hl) (fun i d hi => by obtain ⟨v, hv, hr⟩ := hr (i + 1) d (by simpa using hi); exact ⟨v, by simpa using hv, hr⟩)
        exact ⟨ks ++ ls, .cons _ _ _ _ _ _ a1 b1, a2.trans ht b2⟩
      · cases h
    · cases h

theorem outC_spec {nL : Nat → Prop} {nT : Nat} {τ τ' : List Bool} {d e : D} {v : Value} (ht : Toks g w τ) (h : outC τ d = some (e, τ')) (hr : RepF c g nL nT w d v) : ∃ ks, RepC g.bx g.s w e v ks ∧ Outs g τ τ' ks := by
  unfold outC at h
  split at h
  · rename_i ds
    obtain ⟨vs, rfl, hl, hrs⟩ := hr.agg_inv
    split at h
    · rename_i es τ1 h1
      injection h with h; injection h with e1 e2; subst e1; subst e2
      obtain ⟨ks, a1, a2⟩ := outL_spec (vs := vs.toList) ht h1 (by simpa using hl) (fun i d hi => by
        have := lt_of_get hi
        exact ⟨_, by rw [Array.getElem?_toList]; exact getD_some (by omega), hrs i d hi⟩)
      refine ⟨ks, ?_, a2⟩
      have := RepC.agg (bx := g.bx) (s := g.s) (w := w) es vs.toList ks a1
      simpa using this
    · cases h
  · obtain ⟨ks, a1, a2⟩ := outD_spec ht h hr
    exact ⟨ks, .one _ _ _ a1, a2⟩

theorem outCL_spec {nL : Nat → Prop} {nT : Nat} : ∀ {ds es : List D} {τ τ' : List Bool} {vs : List Value}, Toks g w τ → outCL τ ds = some (es, τ') → ds.length = vs.length → (∀ (i : Nat) (d : D), ds[i]? = some d → ∃ v, vs[i]? = some v ∧ RepF c g nL nT w d v) →
    ∃ ks, RepOL (RepC g.bx g.s w) es vs ks ∧ Outs g τ τ' ks
  | [], es, τ, τ', vs, _, h, hl, _ => by
    simp [outCL] at h
    obtain ⟨rfl, rfl⟩ := h
    cases vs with
    | nil => exact ⟨[], .nil, .nil g _⟩
    | cons _ _ => simp at hl
  | d :: ds, es, τ, τ', [], _, h, hl, _ => by simp at hl
  | d :: ds, es, τ, τ', v :: vs, ht, h, hl, hr => by
    simp only [outCL] at h
    split at h
    · rename_i y τ1 h1
      split at h
      · rename_i ys τ2 h2
        injection h with h; injection h with e1 e2; subst e1; subst e2
        obtain ⟨v', hv', hrx⟩ := hr 0 d rfl
        simp at hv'; subst hv'
        obtain ⟨ks, a1, a2⟩ := outC_spec ht h1 hrx
        obtain ⟨ls, b1, b2⟩ := outCL_spec (ht.sub a2.sub) h2 (by simpa using hl) (fun i d hi => by obtain ⟨v, hv, hr⟩ := hr (i + 1) d (by simpa using hi); exact ⟨v, by simpa using hv, hr⟩)
        exact ⟨ks ++ ls, .cons _ _ _ _ _ _ a1 b1, a2.trans ht b2⟩
      · cases h
    · cases h

end Go.Proofs.YtbbbhalmlboapaaDoor.V

/-
Functions; programs.
-/
namespace Go.Proofs.YtbbbhalmlboapaaDoor.V
set_option linter.unusedSimpArgs false
set_option linter.unusedVariables false
open Go Go.RowKit

variable {c : Cx} {g : Gh} {w : World}

/-- What one result variable holds. -/
def resultOf (tmps : Array Value) : ResultVar → Sem Value
  | .tmp t => pure (tmps.getD t Go.undef)
  | .cell a t => do loadVar t (← asAddr (tmps.getD a Go.undef))

theorem resV_spec {T : Tab} (hT : TabOk c.P T) {nt : Nat} {st : St} {a : Act} {r : ResultVar} {d : D} (hi : Inv c nt st a g w) (h : resV T st r = some d) :
    ∃ v, (resultOf a.tmps r).run c.P w = .ok v w ∧ RepF c g (dom st.L) st.τ.length w d v := by
  cases r with
  | tmp t =>
    simp only [resV] at h
    injection h with h; subst h
    exact ⟨_, rfl, hi.env t⟩
  | cell p t =>
    simp only [resV] at h
    obtain ⟨ad, u, hv, hrun, hr⟩ := load_spec hT hi.fs (hi.env p) h
    exact ⟨u, by simp only [resultOf, hv, asAddr, Sem.run_bind, Sem.run_pure, Result.andThen_ok]; exact hrun, hr⟩

theorem resL_spec {T : Tab} (hT : TabOk c.P T) {nt : Nat} {st : St} {a : Act} (hi : Inv c nt st a g w) : ∀ {rs : List ResultVar} {ds : List D}, resL T st rs = some ds →
    ∃ vs, (rs.mapM (resultOf a.tmps)).run c.P w = .ok vs w ∧ rs.length = vs.length ∧ ds.length = vs.length ∧ ∀ (i : Nat) (d : D), ds[i]? = some d → ∃ v, vs[i]? = some v ∧ RepF c g (dom st.L) st.τ.length w d v
  | [], ds, h => by simp [resL] at h; subst h; exact ⟨[], by simp, rfl, rfl, fun i d hi => by simp at hi⟩
  | r :: rs, ds, h => by
    simp only [resL] at h
    split at h
    · rename_i d hd
      split at h
      · rename_i ds' hds
        injection h with h; subst h
        obtain ⟨v, h1, h2⟩ := resV_spec hT hi hd
        obtain ⟨vs, h3, h4, h5, h6⟩ := resL_spec hT hi hds
        refine ⟨v :: vs, by simp [List.mapM_cons, h1, h3], by simp [h4], by simp [h5], fun i e hi => ?_⟩
        cases i with
        | zero => simp at hi; subst hi; exact ⟨v, rfl, h2⟩
        | succ i => simp at hi; obtain ⟨u, h7, h8⟩ := h6 i e hi; exact ⟨u, by simpa using h7, h8⟩
      · cases h
    · cases h

theorem run_results {P : Program} {fn : Func} {a : Act} {vs : List Value} (h : (fn.results.toList.mapM (resultOf a.tmps)).run P w = .ok vs w) :
    (results fn a.tmps).run P w = .ok (if h : vs.length = 1 then vs[0] else .tuple vs.toArray) w := by
  have e : (fn.results.mapM (resultOf a.tmps)).run P w = .ok vs.toArray w := by
    rw [Array.mapM_eq_mapM_toList]; simp [h]
  have e2 : results fn a.tmps = (do
      let vs ← fn.results.mapM (resultOf a.tmps)
      pure (if h : vs.size = 1 then vs[0] else .tuple vs)) := by
    unfold results
    congr 2
  rw [e2]
  simp [e]

theorem close1_spec {st : St} {d : D} {v : Value} (h : FS c g st.L st.τ st.B w) (hr : RepF c g (dom st.L) st.τ.length w d v) : RepF c { g with s := lend g st.L w } (dom st.L) st.τ.length w (st.close1 d) v := by
  have hg := lend_gle h
  cases d <;> try exact hr.mono hg
  rename_i i off len sz
  simp only [St.close1]
  split
  · rename_i e he
    exact .clean _ _ (borrow_spec h he hr).1
  · exact hr.mono hg

theorem close_spec {st : St} {d : D} {v : Value} (h : FS c g st.L st.τ st.B w) (hr : RepF c g (dom st.L) st.τ.length w d v) : RepF c { g with s := lend g st.L w } (dom st.L) st.τ.length w (st.close d) v := by
  cases d <;> try exact close1_spec h hr
  rename_i ds
  obtain ⟨vs, rfl, hl, hrs⟩ := hr.agg_inv
  refine .agg _ _ (by simpa using hl) (fun i e hi => ?_)
  rw [List.getElem?_map] at hi
  cases hq : ds[i]? with
  | none => rw [hq] at hi; cases hi
  | some y =>
    rw [hq] at hi
    injection hi with hi; subst hi
    exact close1_spec h (hrs i y hq)

theorem ret_spec {T : Tab} (hT : TabOk c.P T) {nt : Nat} {st : St} {a : Act} {fn : Func} {r : D} (hi : Inv c nt st a g w) (h : retV T fn.results.toList st = some r) :
    ∃ v ks τ', (results fn a.tmps).run c.P w = .ok v w ∧ RepR g.bx (lend g st.L w) w r v ks ∧ Outs g st.τ τ' ks := by
  have ht : Toks { g with s := lend g st.L w } w st.τ := ⟨fun i j h1 h2 hw1 hw2 he => by have := hi.fs.inj (.t i) (.t j) ⟨h1, hw1⟩ ⟨h2, hw2⟩ he; injection this, fun i hti how => by
    obtain ⟨a1, a2⟩ := hi.fs.tok i hti how
    refine ⟨?_, a2⟩
    show lend g st.L w (g.tk i) = g.en i
    unfold lend
    rw [if_neg]
    · exact a1
    · rintro ⟨j, ds, hj, he⟩
      have := hi.fs.inj (.l j) (.t i) ⟨ds, hj⟩ ⟨hti, how⟩ he
      cases this⟩
  unfold retV at h
  split at h
  · rename_i r0 hr0
    split at h
    · rename_i d hd
      split at h
      · rename_i e τ' ho
        injection h with h; subst h
        obtain ⟨v, h1, h2⟩ := resV_spec hT hi hd
        obtain ⟨ks, h3, h4⟩ := outC_spec ht ho (close_spec hi.fs h2)
        refine ⟨v, ks, τ', ?_, .one _ _ _ h3, ⟨h4.sub, h4.nd, h4.mem⟩⟩
        rw [run_results (vs := [v]) (by rw [hr0]; simp [List.mapM_cons, h1])]
        simp
      · cases h
    · cases h
  · rename_i hne
    split at h
    · rename_i ds hds
      split at h
      · rename_i es τ' ho
        injection h with h; subst h
        obtain ⟨vs, h1, h2, h3, h4⟩ := resL_spec hT hi hds
        obtain ⟨ks, h5, h6⟩ := outCL_spec ht ho (by simpa using h3) (fun i e hj => by
          rw [List.getElem?_map] at hj
          cases hq : ds[i]? with
          | none => rw [hq] at hj; cases hj
          | some y =>
            rw [hq] at hj
            injection hj with hj; subst hj
            obtain ⟨v, hv, hr⟩ := h4 i y hq
            exact ⟨v, hv, close_spec hi.fs hr⟩)
        refine ⟨.tuple vs.toArray, ks, τ', ?_, .tuple _ _ _ h5, ⟨h6.sub, h6.nd, h6.mem⟩⟩
        rw [run_results h1, dif_neg]
        intro hl
        rw [hl] at h2
        match hrs : fn.results.toList, h2 with
        | [x], _ => exact hne x hrs
      · cases h
    · cases h

theorem close1_plain {st : St} {d : D} (h : d.plain = true) : st.close1 d = d := by
  cases d <;> first | rfl | (simp [D.plain] at h)

theorem plain_clean {nL : Nat → Prop} {nT : Nat} {bx : List Nat} {s : Nat → Nat} {w' : World} {d : D} {v : Value} (hp : d.plain = true) (hg : d.global = true) (h : RepF c g nL nT w d v) : Rep bx s w' d v := plain_rep d hp (global_clean hg h)

/-- What a call hands back, and whose that is. -/
theorem retM_spec {T : Tab} (hT : TabOk c.P T) {nt : Nat} {st : St} {a : Act} {fn : Func} {m : Bool} {r : D} (hi : Inv c nt st a g w) (h : retM m T fn.results.toList st = some r) :
    ∃ v ls, (results fn a.tmps).run c.P w = .ok v w ∧ RepR g.bx (lend g st.L w) w r v ls ∧ ls.Nodup ∧ ∀ k, k ∈ ls → (c.we.heap.size ≤ k ∨ k ∈ c.mv) ∧ k ∉ g.bx := by
  have old : retV T fn.results.toList st = some r → ∃ v ls, (results fn a.tmps).run c.P w = .ok v w ∧ RepR g.bx (lend g st.L w) w r v ls ∧ ls.Nodup ∧ ∀ k, k ∈ ls → (c.we.heap.size ≤ k ∨ k ∈ c.mv) ∧ k ∉ g.bx := fun h => by
    obtain ⟨v, ls, τ', q1, q2, q3⟩ := ret_spec hT hi h
    refine ⟨v, ls, q1, q2, q3.nd, fun k hk => ?_⟩
    obtain ⟨i, a1, _, aw, a3⟩ := q3.mem k hk
    subst a3
    refine ⟨hi.fs.newT i a1 aw, fun hm => ?_⟩
    obtain ⟨b, hb⟩ := List.getElem?_of_mem hm
    have := hi.fs.inj (.t i) (.b b) ⟨a1, aw⟩ (lt_of_get hb) (bx_getD hb).symm
    cases this
  unfold retM at h
  cases m with
  | false => exact old h
  | true =>
    simp only [cond_true] at h
    split at h
    · rename_i ds hds
      split at h
      · rename_i es hes
        injection h with h; subst h
        obtain ⟨vs, h1, h2, h3, h4⟩ := resL_spec hT hi hds
        unfold meltV at hes
        split at hes
        · rename_i i off len sz ds'
          split at hes
          · rename_i xs hL
            simp only [Bool.cond_eq_ite] at hes
            split at hes
            · rename_i hc
              injection hes with hes; subst hes
              simp only [Bool.and_eq_true] at hc
              obtain ⟨⟨⟨⟨⟨⟨⟨⟨c1, c2⟩, c3⟩, c4⟩, c5⟩, c6⟩, hglob⟩, c7⟩, c8⟩ := hc
              obtain rfl := beq_of c1
              obtain rfl := beq_of c2
              obtain rfl := beq_of c3
              obtain ⟨v0, hv0, hr0⟩ := h4 0 _ rfl
              have hcl := close1_spec hi.fs hr0
              have hb : st.borrow (.lsl i 0 xs.length 1) = some (.vec 1 xs .none) := by
                simp [St.borrow, hL, hglob, Nat.beq_refl]
              obtain ⟨hrow, _⟩ := borrow_spec hi.fs hb hr0
              obtain ⟨cap, rfl, _, hcap⟩ := hr0.lsl_inv
              obtain ⟨b0, cs, t, fr, b1, b2, b3⟩ := hi.fs.boxL i xs hL
              have hO : RepO g.bx (lend g st.L w) w (.vec 1 xs .box) (.slice (some ⟨g.loc i, 0, none⟩) xs.length cap) [g.loc i] := .box 1 xs (g.loc i) cap cs t fr hrow b1 b2
              have hown : ∀ k, k ∈ [g.loc i] → (c.we.heap.size ≤ k ∨ k ∈ c.mv) ∧ k ∉ g.bx := fun k hk => by
                simp at hk; subst hk
                refine ⟨hi.fs.newL i xs hL, fun hm => ?_⟩
                obtain ⟨b, hb⟩ := List.getElem?_of_mem hm
                have := hi.fs.inj (.l i) (.b b) ⟨xs, hL⟩ (lt_of_get hb) (bx_getD hb).symm
                cases this
              cases vs with
              | nil => simp at hv0
              | cons v1 vs =>
                simp at hv0; subst hv0
                cases ds' with
                | nil =>
                  have hvs : vs = [] := by simpa using h3.symm
                  subst hvs
                  refine ⟨_, [g.loc i], ?_, .one _ _ _ (.one _ _ _ hO), by simp, hown⟩
                  rw [run_results h1]; simp
                | cons d2 ds2 =>
                  have hlen : (d2 :: ds2).length = vs.length := by simpa using h3
                  have hrest : RepOL (RepC g.bx (lend g st.L w) w) (d2 :: ds2) vs [] := repOL_of _ _ hlen (fun j d v hd hv => by
                    obtain ⟨u, hu, hr⟩ := h4 (j + 1) d (by simpa using hd)
                    have hu : vs[j]? = some u := by simpa using hu
                    rw [hv] at hu; injection hu with hu; subst hu
                    refine .one _ _ _ (.clean _ _ ?_)
                    exact plain_clean (plain_get c7 hd) (List.all_eq_true.1 c8 _ (List.mem_of_getElem? hd)) hr)
                  refine ⟨_, [g.loc i], ?_, .tuple _ _ _ (.cons _ _ _ _ _ _ (.one _ _ _ hO) hrest), by simp, hown⟩
                  rw [run_results h1, dif_neg]
                  cases vs with
                  | nil => simp at hlen
                  | cons _ _ => simp
            · cases hes
          · cases hes
        · cases hes
      · exact old h
    · cases h

/-! ### The shared boxes that are a call's own may be forgotten -/
theorem underL_iff {n : Nat} : ∀ {ds : List D}, D.under.underL n ds = true ↔ ∀ (i : Nat) (d : D), ds[i]? = some d → d.under n = true
  | [] => by simp [D.under.underL]
  | x :: xs => by
    simp only [D.under.underL, Bool.and_eq_true, underL_iff (ds := xs)]
    constructor
    · rintro ⟨h1, h2⟩ i d hi
      cases i with
      | zero => simp at hi; subst hi; exact h1
      | succ i => exact h2 i d (by simpa using hi)
    · intro h
      exact ⟨h 0 x rfl, fun i d hi => h (i + 1) d (by simpa using hi)⟩

theorem under_cells {n : Nat} {d : D} (h : ∀ e, e ∈ d.cells → e.under n = true) : d.under n = true := by
  cases d with
  | agg ds => simp only [D.under]; exact underL_iff.2 (fun i e hi => h e (List.mem_of_getElem? hi))
  | _ => exact h _ (by simp [D.cells])

theorem cells_under {n : Nat} {d e : D} (h : d.under n = true) (he : e ∈ d.cells) : e.under n = true := by
  cases d with
  | agg ds =>
    simp only [D.under] at h
    obtain ⟨i, hi⟩ := List.getElem?_of_mem he
    exact underL_iff.1 h i e hi
  | _ => simp [D.cells] at he; subst he; exact h

theorem mem_cellsL {xs : List D} {x e : D} (hx : x ∈ xs) (he : e ∈ x.cells) : e ∈ cellsL xs := by
  simp only [cellsL, List.mem_flatten, List.mem_map]
  exact ⟨_, ⟨x, hx, rfl⟩, he⟩

theorem cellsL_mem {xs : List D} {e : D} (h : e ∈ cellsL xs) : ∃ x, x ∈ xs ∧ e ∈ x.cells := by
  simp only [cellsL, List.mem_flatten, List.mem_map] at h
  obtain ⟨_, ⟨x, hx, rfl⟩, he⟩ := h
  exact ⟨x, hx, he⟩

theorem Rep.under {bx : List Nat} {s : Nat → Nat} {d : D} {v : Value} (h : Rep bx s w d v) : d.under bx.length = true := by
  induction h with
  | bptr b o k hk =>
    have := lt_of_get hk
    simp only [D.under]
    exact Nat.ble_eq_true_of_le this
  | fptr ds a vs hc hr hs ih => simp only [D.under]; exact underL_iff.2 ih
  | vec sz xs p a cap vs hp hcap hsz hc hr hs ih =>
    simp only [D.under]
    refine underL_iff.2 (fun i x hx => under_cells (fun e he => ?_))
    obtain ⟨j, hj⟩ := List.getElem?_of_mem (mem_cellsL (List.mem_of_getElem? hx) he)
    exact ih j e hj
  | iface t d v h ih => exact ih
  | agg ds vs hl h ih => simp only [D.under]; exact underL_iff.2 ih
  | fn f ds vs hl h ih => simp only [D.under]; exact underL_iff.2 ih
  | _ => rfl

theorem Rep.cut {bx bx' : List Nat} {s : Nat → Nat} {d : D} {v : Value} (hb : ∀ (b k : Nat), b < bx.length → bx'[b]? = some k → bx[b]? = some k) (h : Rep bx' s w d v) : d.under bx.length = true → Rep bx s w d v := by
  induction h with
  | bptr b o k hk => intro hu; simp only [D.under] at hu; exact .bptr b o k (hb b k (Nat.le_of_ble_eq_true hu) hk)
  | fptr ds a vs hc hr hs ih => intro hu; simp only [D.under] at hu; exact .fptr ds a vs hc (fun i d hi => ih i d hi (underL_iff.1 hu i d hi)) hs
  | vec sz xs p a cap vs hp hcap hsz hc hr hs ih =>
    intro hu
    simp only [D.under] at hu
    refine .vec sz xs p a cap vs hp hcap hsz hc (fun i d hi => ih i d hi ?_) hs
    obtain ⟨x, hx, he⟩ := cellsL_mem (List.mem_of_getElem? hi)
    obtain ⟨j, hj⟩ := List.getElem?_of_mem hx
    exact cells_under (underL_iff.1 hu j x hj) he
  | iface t d v h ih => intro hu; exact .iface t d v (ih hu)
  | agg ds vs hl h ih => intro hu; simp only [D.under] at hu; exact .agg ds vs hl (fun i d hi => ih i d hi (underL_iff.1 hu i d hi))
  | fn f ds vs hl h ih => intro hu; simp only [D.under] at hu; exact .fn f ds vs hl (fun i d hi => ih i d hi (underL_iff.1 hu i d hi))
  | bool b => intro _; exact .bool b
  | int k n => intro _; exact .int k n
  | str l => intro _; exact .str l
  | nilp => intro _; exact .nilp
  | nili => intro _; exact .nili
  | nilsl => intro _; exact .nilsl
  | nilfn => intro _; exact .nilfn
  | nilv sz p hp => intro _; exact .nilv sz p hp

theorem repOL_mapR {R R' : D → Value → List Nat → Prop} {ds : List D} {vs : List Value} {ks : List Nat} (h : RepOL R ds vs ks) (hr : ∀ d v ls, d ∈ ds → R d v ls → R' d v ls) : RepOL R' ds vs ks := by
  induction h with
  | nil => exact .nil
  | cons d v ks ds vs ls h _ ih => exact .cons _ _ _ _ _ _ (hr d v ks (by simp) h) (ih (fun e u l he => hr e u l (by simp [he])))

theorem mem_under {n : Nat} {ds : List D} (h : D.under.underL n ds = true) {d : D} (hd : d ∈ ds) : d.under n = true := by
  obtain ⟨i, hi⟩ := List.getElem?_of_mem hd
  exact underL_iff.1 h i d hi

theorem RepO.cut {bx bx' : List Nat} {s : Nat → Nat} {d : D} {v : Value} {ks : List Nat} (hb : ∀ (b k : Nat), b < bx.length → bx'[b]? = some k → bx[b]? = some k) (h : RepO bx' s w d v ks) (hu : d.under bx.length = true) : RepO bx s w d v ks := by
  cases h with
  | clean _ _ h => exact .clean _ _ (h.cut hb hu)
  | fresh sz xs k cap cs t h hs hh hc => exact .fresh sz xs k cap cs t (h.cut hb hu) hs hh hc
  | box sz xs k cap cs t fr h hh hn => exact .box sz xs k cap cs t fr (h.cut hb hu) hh hn
  | tight sz _ h => exact .tight sz _ (h.cut hb hu)

theorem RepC.cut {bx bx' : List Nat} {s : Nat → Nat} {d : D} {v : Value} {ks : List Nat} (hb : ∀ (b k : Nat), b < bx.length → bx'[b]? = some k → bx[b]? = some k) (h : RepC bx' s w d v ks) (hu : d.under bx.length = true) : RepC bx s w d v ks := by
  cases h with
  | one _ _ _ h => exact .one _ _ _ (h.cut hb hu)
  | agg ds vs ks h => exact .agg _ _ _ (repOL_mapR h (fun d v ls hd hr => hr.cut hb (mem_under (by simpa only [D.under] using hu) hd)))

theorem RepR.cut {bx bx' : List Nat} {s : Nat → Nat} {d : D} {v : Value} {ks : List Nat} (hb : ∀ (b k : Nat), b < bx.length → bx'[b]? = some k → bx[b]? = some k) (h : RepR bx' s w d v ks) (hu : d.under bx.length = true) : RepR bx s w d v ks := by
  cases h with
  | one _ _ _ h => exact .one _ _ _ (h.cut hb hu)
  | tuple ds vs ks h => exact .tuple _ _ _ (repOL_mapR h (fun d v ls hd hr => hr.cut hb (mem_under (by simpa only [D.under] using hu) hd)))

theorem underB_get {n : Nat} : ∀ {B : Hp}, underB n B = true → ∀ (i : Nat) (ds : List D), B[i]? = some ds → D.under.underL n ds = true
  | [], _, i, ds, h => by simp at h
  | x :: xs, h, i, ds, hi => by
    simp only [underB, Bool.and_eq_true] at h
    cases i with
    | zero => simp at hi; subst hi; exact h.1
    | succ i => exact underB_get h.2 i ds (by simpa using hi)

/-- At a call's end the shared boxes that are its own are forgotten. -/
theorem FS.cut {bx0 : List Nat} {B B' : List (List D)} (h : FS c g [] [] B' w) (hbx : c.bx = bx0) (hlen : B.length = bx0.length) (hB : ∀ (i : Nat) (ds : List D), B[i]? = some ds → D.under.underL bx0.length ds = true)
    (hu : B'.take B.length = B ∨ underB B.length (B'.take B.length) = true) : FS c { g with bx := bx0 } [] [] (B'.take B.length) w := by
  subst hbx
  have hle : c.bx.length ≤ g.bx.length := by
    rcases Nat.eq_zero_or_pos c.bx.length with h0 | h0
    · omega
    · have h1 := bx_get (bx := c.bx) (i := c.bx.length - 1) (by omega)
      have := lt_of_get (h.pre _ _ h1)
      omega
  have hback : ∀ (b k : Nat), b < c.bx.length → g.bx[b]? = some k → c.bx[b]? = some k := fun b k hb hk => by
    have h1 := bx_get hb
    have h2 := h.pre b _ h1
    rw [hk] at h2
    rw [h1, ← h2]
  have hget : ∀ (i : Nat) (ds : List D), (B'.take B.length)[i]? = some ds → i < c.bx.length ∧ B'[i]? = some ds := fun i ds hi => by
    have hlt := lt_of_get hi
    rw [List.length_take] at hlt
    rw [List.getElem?_take_of_lt (by omega)] at hi
    exact ⟨by omega, hi⟩
  refine ⟨h.below, h.entry, h.baseLe, ?_, fun _ _ h => h, h.zero, h.frame, h.os, h.tape, h.output, fun i ds hi => (by simp at hi), fun i hi => (by simp at hi), fun b k hb => .inr (List.mem_of_getElem? hb), h.old, h.mvS, fun i ds hi => (by simp at hi), fun i ds k hi hk => ?_, fun i hi => (by simp at hi), fun x y hx hy he => ?_⟩
  · have := h.nB
    simp [List.length_take]; omega
  · obtain ⟨h1, h2⟩ := hget i ds hi
    obtain ⟨b1, cs, t, fr, b2, b3, b4⟩ := h.boxB i ds k h2 (h.pre i k hk)
    refine ⟨b1, cs, t, fr, b2, b3, fun j d hj => ?_⟩
    obtain ⟨v, hv, hr⟩ := b4 j d hj
    refine ⟨v, hv, hr.cut hback ?_⟩
    have : D.under.underL c.bx.length ds = true := by
      rcases hu with hu | hu
      · rw [hu] at hi; exact hB i ds hi
      · rw [← hlen]; exact underB_get hu i ds hi
    exact underL_iff.1 this j d hj
  · cases x with
    | l i => obtain ⟨ds, hd⟩ := hx; simp at hd
    | t i => simp [live] at hx
    | b i =>
      cases y with
      | l i => obtain ⟨ds, hd⟩ := hy; simp at hd
      | t i => simp [live] at hy
      | b j =>
        have hi : i < c.bx.length := hx
        have hj : j < c.bx.length := hy
        have e1 := bx_getD (h.pre i _ (bx_get hi))
        have e2 := bx_getD (h.pre j _ (bx_get hj))
        have he : c.bx.getD i 0 = c.bx.getD j 0 := he
        exact h.inj (.b i) (.b j) (show i < g.bx.length by omega) (show j < g.bx.length by omega) (e1.trans (he.trans e2.symm))

theorem get_envOf : ∀ (ds : List D) (k t : Nat), get (envOf k ds) t = if k ≤ t then (ds[t - k]?).getD .undef else .undef
  | [], k, t => by simp [envOf, get]
  | d :: ds, k, t => by
    simp only [envOf, get]
    rw [get_envOf ds (k + 1) t]
    by_cases hkt : k = t
    · subst hkt; simp
    · have hb : Nat.beq k t = false := by
        cases h : Nat.beq k t
        · rfl
        · exact absurd (Nat.eq_of_beq_eq_true h) hkt
      rw [hb]
      simp only [cond_false]
      by_cases hle : k ≤ t
      · rw [if_pos (by omega), if_pos hle, show t - k = (t - (k + 1)) + 1 by omega, List.getElem?_cons_succ]
      · rw [if_neg (by omega), if_neg hle]

/-- What must be known of a function's text. -/
structure FnOk (P : Program) (f : FuncId) (fi : FI) : Prop where
  fn : ∃ fn : Func, P.funcs[f]? = some fn ∧ (fn.name == "runtime.NumGoroutine") = false ∧ fn.body = some fi.body ∧ fn.results.toList = fi.res ∧ fn.ntmps = fi.nt
  np : fi.np ≤ fi.nt
  code : codeOk fi.an fi.nt fi.body = true
  thaw : fi.mv = true → ∀ i, fi.an.thaw i = .none := by (intro h; cases h)

theorem callOK_at {C : Callees} (h : CallOK c C) (w : World) (g : Gh) (ks : List Nat) : CallOK (c.at_ w g ks) C := h
theorem tabOk_at {T : Tab} (h : TabOk c.P T) (w : World) (g : Gh) (ks : List Nat) : TabOk (c.at_ w g ks).P T := h

theorem repO_slot {nL : Nat → Prop} {nT : Nat} {d : D} {v : Value} {ks : List Nat} (h : RepO g.bx g.s w d v ks) : RepF c g nL nT w d v := by
  cases h with
  | clean _ _ h => exact .clean _ _ h
  | fresh sz xs k cap cs t h hs hh hc => exact .fresh _ _ _ h
  | box sz xs k cap cs t fr h hh hn => exact .boxr _ _ _ h
  | tight sz _ h => exact .fresh _ _ _ h.to_none

theorem repC_slot {nL : Nat → Prop} {nT : Nat} {d : D} {v : Value} {ks : List Nat} (h : RepC g.bx g.s w d v ks) : RepF c g nL nT w d v := by
  cases h with
  | one _ _ _ h => exact repO_slot h
  | agg ds vs ks h =>
    obtain ⟨h1, h2⟩ := repOL_get h
    refine .agg _ _ (by simpa using h1) (fun i d hi => ?_)
    obtain ⟨u, ls, hu, hr⟩ := h2 i d hi
    simp [Array.getD_eq_getD_getElem?, hu]
    exact repO_slot hr

theorem env_of {nL : Nat → Prop} {nT n : Nat} {ds : List D} {vs : List Value} (hl : ds.length = vs.length) (h : ∀ (i : Nat) (d : D), ds[i]? = some d → ∃ v, vs[i]? = some v ∧ RepF c g nL nT w d v) :
    EnvR c g nL nT w (envOf 0 ds) { tmps := vs.toArray ++ Array.replicate n Go.undef, defers := [] } := fun t => by
  show RepF _ _ _ _ _ (get (envOf 0 ds) t) ((vs.toArray ++ Array.replicate n Go.undef).getD t Go.undef)
  rw [get_envOf]
  simp only [Nat.zero_le, if_true, Nat.sub_zero]
  cases hd : ds[t]? with
  | none => exact .undef _
  | some d =>
    obtain ⟨v, hv, hr⟩ := h t d hd
    have : (vs.toArray ++ Array.replicate n Go.undef).getD t Go.undef = v := by
      rw [Array.getD_eq_getD_getElem?, Array.getElem?_append_left (by have := lt_of_get hv; simpa using this)]
      simp [hv]
    rw [this]; exact hr

theorem fn_spec {T : Tab} (hT : TabOk c.P T) {C : Callees} (hC : CallOK c C) (hD : ∀ w g ks, DrawOK (c.at_ w g ks) T C) {f : FuncId} {fi : FI} {args : List D} {B B' : List (List D)} {r : D} (hf : FnOk c.P f fi) (h : runV T C fi args B = some (r, B'))
    {vs : List Value} {ks : List Nat} (hfs : FS (c.at_ w g ks) g [] [] B w) (ha : RepOL (RepC g.bx g.s w) args vs ks) (hnd : ks.Nodup) (hnb : ∀ k, k ∈ ks → k ∉ g.bx) :
    Calls c.P f vs.toArray w fun e w' => ∃ v, e = .returned v ∧ ∃ (g' : Gh) (ls : List Nat), FS (c.at_ w g ks) g' [] [] B' w' ∧ RepR g'.bx g'.s w' r v ls ∧ ls.Nodup ∧ ∀ k, k ∈ ls → (w.heap.size ≤ k ∨ k ∈ ks) ∧ k ∉ g'.bx := by
  obtain ⟨fn, h1, h2, h3, h4, h5⟩ := hf.fn
  have h6 := hf.np
  have h7 := hf.code
  obtain ⟨hal, hag⟩ := repOL_get ha
  unfold runV at h
  cases hn : Nat.beq args.length fi.np with
  | false => simp [hn] at h
  | true =>
    simp only [hn, cond_true] at h
    have hn := beq_of hn
    -- whatever the frame is in which it runs
    have key : ∀ (ms : List Nat) (g1 : Gh), ThawOk (c.at_ w g ms) fi.an → Inv (c.at_ w g ms) fi.nt (beginV fi.mv args B) { tmps := vs.toArray ++ Array.replicate (fn.ntmps - vs.toArray.size) Go.undef, defers := [] } g1 w →
        Calls c.P f vs.toArray w fun e w' => ∃ v, e = .returned v ∧ ∃ (g' : Gh) (ls : List Nat), FS (c.at_ w g ms) g' [] [] B' w' ∧ RepR g'.bx g'.s w' r v ls ∧ ls.Nodup ∧ ∀ k, k ∈ ls → (w.heap.size ≤ k ∨ k ∈ ms) ∧ k ∉ g'.bx := fun ms g1 htw hinv => by
      refine calls_of_wp h1 h3 ?_
      have hdr := hD w g ms
      split at h
      · cases h
      · rename_i x st hne hcode
        split at h
        · rename_i r' hret
          refine code_spec (c := c.at_ w g ms) hT hC hdr htw fi.body hcode hinv h7 (fun g' a' w' hi' => ?_)
          obtain ⟨v, ls, q1, q2, qnd, hrow⟩ := retM_spec (c := c.at_ w g ms) hT hi' (fn := fn) (by rw [h4]; exact hret)
          have hrow : ∀ k, k ∈ ls → (w.heap.size ≤ k ∨ k ∈ ms) ∧ k ∉ g'.bx := hrow
          have hdrop := hi'.fs.drop
          have hout : ∃ v, (results fn a'.tmps).run c.P w' = .ok v w' ∧ ∃ u, Ending.returned v = .returned u ∧ ∃ (g' : Gh) (ls : List Nat), FS (c.at_ w g ms) g' [] [] B' w' ∧ RepR g'.bx g'.s w' r u ls ∧ ls.Nodup ∧ ∀ k, k ∈ ls → (w.heap.size ≤ k ∨ k ∈ ms) ∧ k ∉ g'.bx := by
            refine ⟨v, q1, v, rfl, ?_⟩
            unfold endV at h
            cases hcut : fi.cut with
            | false =>
              rw [hcut] at h
              simp only [cond_false] at h
              injection h with h; injection h with e1 e2; subst e1; subst e2
              exact ⟨{ g' with s := lend g' st.L w' }, ls, hdrop, q2, qnd, hrow⟩
            | true =>
              rw [hcut] at h
              simp only [cond_true] at h
              split at h
              · rename_i hcond
                injection h with h; injection h with e1 e2; subst e1; subst e2
                have hlen : B.length = g.bx.length := hfs.nB
                have hq := hdrop.cut (bx0 := g.bx) rfl hlen (fun i ds hi => by
                  obtain ⟨ds', hd', hbx⟩ := hfs.boxAt (bx_get (show i < g.bx.length by rw [← hlen]; exact lt_of_get hi))
                  rw [hi] at hd'; injection hd' with hd'; subst hd'
                  obtain ⟨_, cs, t, fr, _, _, b4⟩ := hbx
                  exact underL_iff.2 (fun j d hj => by obtain ⟨u, _, hr⟩ := b4 j d hj; exact hr.under)) hcond.2
                have hback : ∀ (b k : Nat), b < g.bx.length → g'.bx[b]? = some k → g.bx[b]? = some k := fun b k hb hk => by
                  have h1 := bx_get hb
                  have h2 := hi'.fs.pre b _ h1
                  rw [hk] at h2
                  rw [h1, ← h2]
                exact ⟨_, ls, hq, q2.cut hback (by rw [← hlen]; exact hcond.1), qnd, fun k hk => ⟨(hrow k hk).1, fun hm => (hrow k hk).2 (by
                  obtain ⟨b, hb⟩ := List.getElem?_of_mem hm
                  exact List.mem_of_getElem? (hi'.fs.pre b k hb))⟩⟩
              · cases h
          cases x with
          | norm => exact ⟨hi'.defers, hout⟩
          | ret => exact ⟨hi'.defers, hout⟩
          | exit i => exact absurd rfl (hne i)
        · cases h
      · cases h
    have hsz : (vs.toArray ++ Array.replicate (fn.ntmps - vs.toArray.size) Go.undef).size = fi.nt := by simp; omega
    cases hmv : fi.mv with
    | false =>
      -- no row is taken
      have hfs0 : FS (c.at_ w g []) g [] [] B w := ⟨hfs.below, hfs.entry, hfs.baseLe, hfs.nB, hfs.pre, hfs.zero, fun k hk _ _ => ⟨rfl, rfl⟩, rfl, rfl, rfl, fun i ds hi => (by simp at hi), fun i hi => (by simp at hi), hfs.newB, fun k hk => hfs.old k (hk.imp id (fun h => by cases h)), fun k hk => (by cases hk), fun i ds hi => (by simp at hi), hfs.boxB, fun i hi => (by simp at hi), hfs.inj⟩
      refine (key [] g (.inl rfl) ⟨by simpa [beginV, hmv] using hfs0, ?_, hsz, rfl⟩).mono (fun e w' he => ?_)
      · rw [hmv]
        exact env_of hal (fun i d hi => by obtain ⟨u, ls, hu, hr⟩ := hag i d hi; exact ⟨u, hu, repC_slot hr⟩)
      · obtain ⟨v, rfl, g', ls, hf', hrep, hnd', hls⟩ := he
        have hfr : ∀ k, k ∈ ks → w'.heap[k]? = w.heap[k]? ∧ g'.s k = g.s k := fun k hk => hf'.frame k (hfs.mvS k hk).1 (hnb k hk) (fun hm => by cases hm)
        refine ⟨v, rfl, g', ls, ⟨hf'.below, hf'.entry, hf'.baseLe, hf'.nB, hf'.pre, hf'.zero, fun k hk hb _ => hf'.frame k hk hb (fun hm => by cases hm), hf'.os, hf'.tape, hf'.output, fun i ds hi => (by simp at hi), fun i hi => (by simp at hi), hf'.newB, hfs.old, fun k hk => ?_, fun i ds hi => (by simp at hi), hf'.boxB, fun i hi => (by simp at hi), hf'.inj⟩, hrep, hnd', fun k hk => ⟨.inl ((hls k hk).1.resolve_right (fun h => by cases h)), (hls k hk).2⟩⟩
        obtain ⟨c1, c2⟩ := hfr k hk
        have hlt := (hfs.mvS k hk).1
        refine ⟨Nat.lt_of_lt_of_le hlt hf'.entry, Nat.le_of_eq c2.symm, fun o u ho hv => ?_⟩
        rw [World.cell?_of_block (w := w) c1]; exact hv
    | true =>
      have hap : Apart (c.at_ w g ks) g [] [] ks := ⟨hnd, fun k hk => .inr hk, fun x hx => by
        cases x with
        | l i => obtain ⟨ds, hd⟩ := hx; simp at hd
        | t i => simp [live] at hx
        | b i => exact fun hm => hnb _ hm (List.mem_of_getElem? (bx_get (show i < g.bx.length from hx)))⟩
      obtain ⟨g1, a1, a2, a3, a4, a5, a6⟩ := adoptCL_spec (c := c.at_ w g ks) (ls := []) ha ⟨rfl, rfl⟩ hfs (by simpa using hap)
      refine key ks g1 (.inr (hf.thaw hmv)) ⟨by simpa [beginV, hmv] using a1, ?_, hsz, rfl⟩
      rw [hmv]
      exact env_of a5 a6

/-- One function more. -/
theorem CallOK.upd {T : Tab} (hT : TabOk c.P T) {C : Callees} (hC : CallOK c C) (hD : ∀ w g ks, DrawOK (c.at_ w g ks) T C) {f : FuncId} {fi : FI} (hf : FnOk c.P f fi) {h : List D → Hp → Option (D × Hp)}
    (hh : ∀ args B r B', h args B = some (r, B') → runV T C fi args B = some (r, B')) : CallOK c (upd C f h) := fun f' args B r B' hu => by
  unfold V.upd at hu
  cases hb : Nat.beq f f' with
  | true =>
    rw [hb] at hu
    simp only [cond_true] at hu
    obtain rfl := Nat.eq_of_beq_eq_true hb
    obtain ⟨fn, h1, h2, h3, _⟩ := hf.fn
    exact ⟨⟨fn, h1, h2, by rw [h3]; rfl⟩, fun w g vs ks hfs ha hnd hnb => fn_spec hT hC hD hf (hh args B r B' hu) hfs ha hnd hnb⟩
  | false =>
    rw [hb] at hu
    exact hC f' args B r B' hu

theorem CallOK.none : CallOK c noCallees := fun f args B r B' h => by cases h

end Go.Proofs.YtbbbhalmlboapaaDoor.V

/-
How the interpreter is evaluated, step by step, over values that are not known: what is still to be done is data, so nothing is looked into ahead of its turn.
-/
namespace Go.Proofs.YtbbbhalmlboapaaDoor.V
set_option linter.unusedSimpArgs false
set_option linter.unusedVariables false
open Go Go.RowKit

/-- What is still to be done. -/
inductive Kont where
  | top
  | seq (b : Code) (k : Kont)
  | block (id : Nat) (k : Kont)

noncomputable def app (T : Tab) (an : An) (C : Callees) : Kont → Option (X × St) → Option (X × St)
  | .top, r => r
  | .seq b k, r => app T an C k (match r with
    | some (.norm, st) => codeV T an C b st
    | r => r)
  | .block id k, r => app T an C k (match r with
    | some (.exit i, st) => bif Nat.beq i id then some (.norm, st) else some (.exit i, st)
    | r => r)

noncomputable def go (T : Tab) (an : An) (C : Callees) (c : Code) (k : Kont) (st : St) : Option (X × St) := app T an C k (codeV T an C c st)
noncomputable def goX (T : Tab) (an : An) (C : Callees) (k : Kont) (x : X) (st : St) : Option (X × St) := app T an C k (some (x, st))
noncomputable def goOps (d : Bool) (T : Tab) (an : An) (C : Callees) (ops rest : List Oper) (k : Kont) (st : St) : Option (X × St) := app T an C k (match opsV T an.flip (CC d C) ops rest st with
  | some st' => some (.norm, st')
  | .none => .none)
noncomputable def goOp (e : Bool) (T : Tab) (an : An) (C : Callees) (r : Option (D × St)) (ρ : Env) (dst : Option Tmp) (ops rest : List Oper) (k : Kont) : Option (X × St) :=
  match r with
  | some (d, st') => goOps e T an C ops rest k { st' with ρ := put ρ dst d }
  | .none => app T an C k .none
noncomputable def goIf (e : Bool) (T : Tab) (an : An) (C : Callees) (b : Option Bool) (o : Oper) (ops rest : List Oper) (k : Kont) (st : St) : Option (X × St) :=
  match b with
  | some true => goOp e T an C (opV T an.flip (CC e C) o st) st.ρ o.dst ops rest k
  | some false => goOps e T an C ops rest k { st with ρ := put st.ρ o.dst (.tuple []) }
  | .none => app T an C k .none
noncomputable def goDyn (T : Tab) (an : An) (C : Callees) (ops rest : List Oper) (acc : List (List Acc)) (k : Kont) (st : St) : Option (X × St) := app T an C k (match runD T an.flip C ops rest st with
  | some (st', l) => bif okAccs ops (acc ++ l) then some (.norm, st') else .none
  | .none => .none)
noncomputable def goDynS (T : Tab) (an : An) (C : Callees) (ops rest : List Oper) (acc : List (List Acc)) (k : Kont) (r : Option (St × List Acc)) : Option (X × St) :=
  match r with
  | some (st, a) => goDyn T an C ops rest (acc ++ [a]) k st
  | .none => app T an C k .none
noncomputable def goCond (T : Tab) (an : An) (C : Callees) (d : D) (x y : Code) (k : Kont) (st : St) : Option (X × St) :=
  match d with
  | .bool true => go T an C x k st
  | .bool false => go T an C y k st
  | _ => app T an C k .none
noncomputable def loopC (T : Tab) (an : An) (C : Callees) (c : Code) (st : St) : Option (X × St) := loopW (fun s => go T an C c .top (an.at_ (firstOf c) s)) st
noncomputable def goL (T : Tab) (an : An) (C : Callees) (k : Kont) (r : Option (X × St)) : Option (X × St) := app T an C k r

noncomputable def fin (T : Tab) (res : List ResultVar) (cut : Bool) (B : Hp) (r : Option (X × St)) : Option (D × Hp) :=
  match r with
  | some (.exit _, _) => .none
  | some (_, st) => match retV T res st with
    | some r => endV cut B r st.B
    | .none => .none
  | .none => .none

noncomputable def finM (T : Tab) (res : List ResultVar) (cut : Bool) (B : Hp) (r : Option (X × St)) : Option (D × Hp) :=
  match r with
  | some (.exit _, _) => .none
  | some (_, st) => match retM true T res st with
    | some r => endV cut B r st.B
    | .none => .none
  | .none => .none

noncomputable def finW (m : Bool) (T : Tab) (res : List ResultVar) (cut : Bool) (B : Hp) (r : Option (X × St)) : Option (D × Hp) := bif m then finM T res cut B r else fin T res cut B r
theorem e_finWf (T : Tab) (res : List ResultVar) (cut : Bool) (B : Hp) (r : Option (X × St)) : finW false T res cut B r = fin T res cut B r := rfl
theorem e_finWt (T : Tab) (res : List ResultVar) (cut : Bool) (B : Hp) (r : Option (X × St)) : finW true T res cut B r = finM T res cut B r := rfl

theorem nbeq (a b : Nat) : Nat.beq a b = decide (a = b) := by
  cases h : Nat.beq a b
  · simp; intro e; subst e; simp at h
  · simp; exact Nat.eq_of_beq_eq_true h

theorem nble (a b : Nat) : Nat.ble a b = decide (a ≤ b) := by
  cases h : Nat.ble a b
  · simp; exact Nat.not_le.1 (fun hle => by rw [Nat.ble_eq_true_of_le hle] at h; cases h)
  · simp; exact Nat.le_of_ble_eq_true h

variable {T : Tab} {an : An} {C : Callees}

theorem e_skip (k : Kont) (st : St) : go T an C .skip k st = goX T an C k .norm st := rfl
theorem e_exit (id : Nat) (k : Kont) (st : St) : go T an C (.exit id) k st = goX T an C k (.exit id) st := rfl
theorem e_ret (k : Kont) (st : St) : go T an C .ret k st = goX T an C k .ret st := rfl
theorem e_seq (a b : Code) (k : Kont) (st : St) : go T an C (.seq a b) k st = go T an C a (.seq b k) st := by
  simp only [go, codeV, app]
  cases codeV T an C a st with
  | none => rfl
  | some r => obtain ⟨x, st'⟩ := r; cases x <;> rfl
theorem e_block (id : Nat) (c : Code) (k : Kont) (st : St) : go T an C (.block id c) k st = go T an C c (.block id k) st := by
  simp only [go, codeV, app]
  cases codeV T an C c st with
  | none => rfl
  | some r => obtain ⟨x, st'⟩ := r; cases x <;> rfl
theorem e_region (id : Nat) (ops : Array Oper) (d : Bool) (k : Kont) (st : St) : go T an C (.region id ops d) k st = bif d && an.dyn id then goDyn T an C ops.toList ops.toList [] k (an.mid id st) else goOps d T an C ops.toList ops.toList k (an.mid id st) := by
  cases h : (d && an.dyn id) with
  | false =>
    simp only [go, codeV, goOps, regionV, h, cond_false]
    cases opsV T an.flip (CC d C) ops.toList ops.toList (an.mid id st) <;> rfl
  | true =>
    simp only [go, codeV, goDyn, regionV, h, cond_true, List.nil_append]
    cases runD T an.flip C ops.toList ops.toList (an.mid id st) with
    | none => rfl
    | some r =>
      obtain ⟨s, l⟩ := r
      simp only []
      cases okAccs ops.toList l <;> rfl
/-- All of the region has run: what was touched fits. -/
theorem dyn_done {γ : Type} (F : Option (X × St) → γ) {ops : List Oper} {acc : List (List Acc)} {k : Kont} {st : St} {r : γ} (h : okAccs ops acc = true) (e : F (goX T an C k .norm st) = r) : F (goDyn T an C ops [] acc k st) = r := by
  rw [← e]
  simp only [goDyn, runD, List.append_nil, h, cond_true, goX]
theorem e_dyn (ops rest : List Oper) (acc : List (List Acc)) (o : Oper) (k : Kont) (st : St) : goDyn T an C ops (o :: rest) acc k st = goDynS T an C ops rest acc k (stepD T an.flip C ops o st) := by
  simp only [goDyn, goDynS, runD]
  cases stepD T an.flip C ops o st with
  | none => rfl
  | some r =>
    obtain ⟨s, a⟩ := r
    simp only []
    cases runD T an.flip C ops rest s with
    | none => rfl
    | some q => simp
theorem e_dynS (ops rest : List Oper) (acc : List (List Acc)) (a : List Acc) (k : Kont) (st : St) : goDynS T an C ops rest acc k (some (st, a)) = goDyn T an C ops rest (acc ++ [a]) k st := rfl
theorem keepB_of {f : FuncId} {args : List D} {B : Hp} {r : D} (h : C f args B = some (r, B)) : keepB C f args B = some (r, B) := by
  unfold keepB
  rw [h]
  simp
theorem e_cond (c : Operand) (x y : Code) (k : Kont) (st : St) : go T an C (.cond c x y) k st = goCond T an C (eval st.ρ c) x y k st := by
  simp only [go, codeV, goCond]
  cases eval st.ρ c <;> try rfl
  rename_i t
  cases t <;> rfl
theorem e_true (x y : Code) (k : Kont) (st : St) : goCond T an C (.bool true) x y k st = go T an C x k st := rfl
theorem e_false (x y : Code) (k : Kont) (st : St) : goCond T an C (.bool false) x y k st = go T an C y k st := rfl
theorem e_loop (c : Code) (k : Kont) (st : St) : go T an C (.loop c) k st = goL T an C k (loopC T an C c st) := rfl
theorem e_l (x : X) (k : Kont) (st : St) : goL T an C k (some (x, st)) = goX T an C k x st := rfl
theorem e_top (x : X) (st : St) : goX T an C .top x st = some (x, st) := rfl
theorem e_seqN (b : Code) (k : Kont) (st : St) : goX T an C (.seq b k) .norm st = go T an C b k st := rfl
theorem e_seqE (b : Code) (k : Kont) (i : Nat) (st : St) : goX T an C (.seq b k) (.exit i) st = goX T an C k (.exit i) st := rfl
theorem e_seqR (b : Code) (k : Kont) (st : St) : goX T an C (.seq b k) .ret st = goX T an C k .ret st := rfl
theorem e_blockN (id : Nat) (k : Kont) (st : St) : goX T an C (.block id k) .norm st = goX T an C k .norm st := rfl
theorem e_blockR (id : Nat) (k : Kont) (st : St) : goX T an C (.block id k) .ret st = goX T an C k .ret st := rfl
theorem e_blockE (id i : Nat) (k : Kont) (st : St) : goX T an C (.block id k) (.exit i) st = if i = id then goX T an C k .norm st else goX T an C k (.exit i) st := by
  simp only [goX, app, nbeq]
  by_cases h : i = id <;> simp [h]
theorem e_nil (e : Bool) (ops : List Oper) (k : Kont) (st : St) : goOps e T an C ops [] k st = goX T an C k .norm st := rfl
theorem e_plain (e : Bool) (ops rest : List Oper) (dst : Option Tmp) (op : Op) (ty : TypeId) (pos : String) (af : Array Edge) (k : Kont) (st : St) :
    goOps e T an C ops (⟨dst, op, ty, pos, af, .none⟩ :: rest) k st = goOp e T an C (opV T an.flip (CC e C) ⟨dst, op, ty, "", #[], .none⟩ st) st.ρ dst ops rest k := by
  have : opV T an.flip (CC e C) ⟨dst, op, ty, "", #[], .none⟩ st = opV T an.flip (CC e C) ⟨dst, op, ty, pos, af, .none⟩ st := rfl
  rw [this]
  simp only [goOps, opsV, wantedV, goOp]
  cases opV T an.flip (CC e C) ⟨dst, op, ty, pos, af, .none⟩ st <;> rfl
theorem e_op (e : Bool) (d : D) (st : St) (ρ : Env) (dst : Option Tmp) (ops rest : List Oper) (k : Kont) : goOp e T an C (some (d, st)) ρ dst ops rest k = goOps e T an C ops rest k { st with ρ := put ρ dst d } := rfl
theorem e_guard (e : Bool) (ops rest : List Oper) (dst : Option Tmp) (op : Op) (ty : TypeId) (pos : String) (af : Array Edge) (g : Nat × Bool) (k : Kont) (st : St) :
    goOps e T an C ops (⟨dst, op, ty, pos, af, some g⟩ :: rest) k st = goIf e T an C (wantedV st.ρ ops ⟨dst, op, ty, "", #[], some g⟩) ⟨dst, op, ty, "", #[], some g⟩ ops rest k st := by
  have h1 : opV T an.flip (CC e C) ⟨dst, op, ty, "", #[], some g⟩ st = opV T an.flip (CC e C) ⟨dst, op, ty, pos, af, some g⟩ st := rfl
  have h2 : wantedV st.ρ ops ⟨dst, op, ty, "", #[], some g⟩ = wantedV st.ρ ops ⟨dst, op, ty, pos, af, some g⟩ := rfl
  simp only [goOps, opsV, goIf, goOp, h1, h2]
  cases wantedV st.ρ ops ⟨dst, op, ty, pos, af, some g⟩ with
  | none => rfl
  | some b =>
    cases b
    · rfl
    · simp only []
      cases opV T an.flip (CC e C) ⟨dst, op, ty, pos, af, some g⟩ st <;> rfl
theorem e_ifT (e : Bool) (o : Oper) (ops rest : List Oper) (k : Kont) (st : St) : goIf e T an C (some true) o ops rest k st = goOp e T an C (opV T an.flip (CC e C) o st) st.ρ o.dst ops rest k := rfl
theorem e_ifF (e : Bool) (o : Oper) (ops rest : List Oper) (k : Kont) (st : St) : goIf e T an C (some false) o ops rest k st = goOps e T an C ops rest k { st with ρ := put st.ρ o.dst (.tuple []) } := rfl

theorem e_if (e : Bool) (b : Bool) (o : Oper) (ops rest : List Oper) (k : Kont) (st : St) : goIf e T an C (some b) o ops rest k st = if b = true then goOp e T an C (opV T an.flip (CC e C) o st) st.ρ o.dst ops rest k else goOps e T an C ops rest k { st with ρ := put st.ρ o.dst (.tuple []) } := by
  cases b <;> rfl
theorem e_bool (b : Bool) (x y : Code) (k : Kont) (st : St) : goCond T an C (.bool b) x y k st = if b = true then go T an C x k st else go T an C y k st := by
  cases b <;> rfl

theorem e_run (fi : FI) (args : List D) (B : Hp) (hl : args.length = fi.np) : runV T C fi args B = finW fi.melt T fi.res fi.cut B (go T fi.an C fi.body .top (beginV fi.mv args B)) := by
  unfold runV
  rw [hl, nbeq]
  simp only [go, app, decide_true, cond_true]
  cases hm : fi.melt <;> simp only [finW, fin, finM, cond_true, cond_false]
  all_goals
    cases codeV T fi.an C fi.body (beginV fi.mv args B) with
    | none => rfl
    | some r =>
      obtain ⟨x, st⟩ := r
      cases x with
      | exit i => rfl
      | _ =>
        first
        | (cases h : retM true T fi.res st <;> simp only [h]; done)
        | (cases h : retV T fi.res st <;> simp only [retM, cond_false, h]; done)

theorem begin_f (args : List D) (B : Hp) : beginV false args B = ⟨envOf 0 args, [], [], B⟩ := rfl
theorem begin_t (args : List D) (B : Hp) : beginV true args B = ⟨envOf 0 (adoptCL [] args).1, [], (adoptCL [] args).2, B⟩ := rfl
theorem end_f (B : Hp) (r : D) (B' : Hp) : endV false B r B' = some (r, B') := rfl
theorem end_t {B : Hp} {r : D} {B' B'' : Hp} (h1 : r.under B.length = true) (h2 : B'.take B.length = B'') (h3 : B'' = B ∨ underB B.length B'' = true) : endV true B r B' = some (r, B'') := by
  unfold endV
  simp only [cond_true]
  rw [h2, if_pos ⟨h1, h3⟩]

noncomputable def finR (cut : Bool) (B : Hp) (r : Option D) (B' : Hp) : Option (D × Hp) :=
  match r with
  | some r => endV cut B r B'
  | .none => .none
theorem e_finN (res : List ResultVar) (cut : Bool) (B : Hp) (st : St) : fin T res cut B (some (.norm, st)) = finR cut B (retV T res st) st.B := by
  simp only [fin, finR]
theorem e_finMN (res : List ResultVar) (cut : Bool) (B : Hp) (st : St) : finM T res cut B (some (.norm, st)) = finR cut B (retM true T res st) st.B := by
  simp only [finM, finR]
theorem e_finMX (res : List ResultVar) (cut : Bool) (B : Hp) (st : St) : finM T res cut B (some (.ret, st)) = finR cut B (retM true T res st) st.B := by
  simp only [finM, finR]
theorem e_finX (res : List ResultVar) (cut : Bool) (B : Hp) (st : St) : fin T res cut B (some (.ret, st)) = finR cut B (retV T res st) st.B := by
  simp only [fin, finR]
theorem e_finR (cut : Bool) (B : Hp) (r : D) (B' : Hp) : finR cut B (some r) B' = endV cut B r B' := rfl

theorem loopC_next {c : Code} {st st' : St} {r : X × St} (h : go T an C c .top (an.at_ (firstOf c) st) = some (.norm, st')) (hr : loopC T an C c st' = some r) : loopC T an C c st = some r := loopW_next h hr
theorem loopC_done {c : Code} {st st' : St} {x : X} (h : go T an C c .top (an.at_ (firstOf c) st) = some (x, st')) (hx : x ≠ .norm) : loopC T an C c st = some (x, st') := loopW_done h hx

theorem codeV_loop (c : Code) (st : St) : codeV T an C (.loop c) st = loopC T an C c st := rfl

end Go.Proofs.YtbbbhalmlboapaaDoor.V
