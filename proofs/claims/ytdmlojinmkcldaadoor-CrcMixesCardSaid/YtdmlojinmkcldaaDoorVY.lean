/-
Functions; programs.
-/
import Derived.Test.YtdmlojinmkcldaaDoorVX
namespace Go.Proofs.YtdmlojinmkcldaaDoor.V
set_option linter.unusedSimpArgs false
set_option linter.unusedVariables false
open Go Go.RowKit

variable {c : Cx} {g : Gh} {w : World}

/-- What one result variable holds. -/
def resultOf (tmps : Array Value) : ResultVar → Sem Value
  | .tmp t => pure (tmps.getD t Go.undef)
  | .cell a t => do loadVar t (← asAddr (tmps.getD a Go.undef))

theorem resV_spec {T : Tab} (hT : TabOk c.P T) {nt : Nat} {st : St} {a : Act} {r : ResultVar} {d : D} (hi : Inv c nt st a g w) (h : resV T st r = some d) :
    ∃ v, (resultOf a.tmps r).run c.P w = .ok v w ∧ RepF c g (dom st.L) st.τ.length w d v := by
  cases r with
  | tmp t =>
    simp only [resV] at h
    injection h with h; subst h
    exact ⟨_, rfl, hi.env t⟩
  | cell p t =>
    simp only [resV] at h
    obtain ⟨ad, u, hv, hrun, hr⟩ := load_spec hT hi.fs (hi.env p) h
    exact ⟨u, by simp only [resultOf, hv, asAddr, Sem.run_bind, Sem.run_pure, Result.andThen_ok]; exact hrun, hr⟩

theorem resL_spec {T : Tab} (hT : TabOk c.P T) {nt : Nat} {st : St} {a : Act} (hi : Inv c nt st a g w) : ∀ {rs : List ResultVar} {ds : List D}, resL T st rs = some ds →
    ∃ vs, (rs.mapM (resultOf a.tmps)).run c.P w = .ok vs w ∧ rs.length = vs.length ∧ ds.length = vs.length ∧ ∀ (i : Nat) (d : D), ds[i]? = some d → ∃ v, vs[i]? = some v ∧ RepF c g (dom st.L) st.τ.length w d v
  | [], ds, h => by simp [resL] at h; subst h; exact ⟨[], by simp, rfl, rfl, fun i d hi => by simp at hi⟩
  | r :: rs, ds, h => by
    simp only [resL] at h
    split at h
    · rename_i d hd
      split at h
      · rename_i ds' hds
        injection h with h; subst h
        obtain ⟨v, h1, h2⟩ := resV_spec hT hi hd
        obtain ⟨vs, h3, h4, h5, h6⟩ := resL_spec hT hi hds
        refine ⟨v :: vs, by simp [List.mapM_cons, h1, h3], by simp [h4], by simp [h5], fun i e hi => ?_⟩
        cases i with
        | zero => simp at hi; subst hi; exact ⟨v, rfl, h2⟩
        | succ i => simp at hi; obtain ⟨u, h7, h8⟩ := h6 i e hi; exact ⟨u, by simpa using h7, h8⟩
      · cases h
    · cases h

theorem run_results {P : Program} {fn : Func} {a : Act} {vs : List Value} (h : (fn.results.toList.mapM (resultOf a.tmps)).run P w = .ok vs w) :
    (results fn a.tmps).run P w = .ok (if h : vs.length = 1 then vs[0] else .tuple vs.toArray) w := by
  have e : (fn.results.mapM (resultOf a.tmps)).run P w = .ok vs.toArray w := by
    rw [Array.mapM_eq_mapM_toList]; simp [h]
  have e2 : results fn a.tmps = (do
      let vs ← fn.results.mapM (resultOf a.tmps)
      pure (if h : vs.size = 1 then vs[0] else .tuple vs)) := by
    unfold results
    congr 2
  rw [e2]
  simp [e]

/-- At a call's end this frame's own boxes stay what they are. -/
theorem lend_gle {L : List (Option (List D))} {τ : List Bool} {B : List (List D)} (h : FS c g L τ B w) : Gle c g (dom L) τ.length w { g with s := lend g L w } (dom L) τ.length w :=
  ⟨⟨fun _ => rfl, fun k _ => lend_le h k, fun _ _ _ _ hc => hc⟩, fun _ h => h, Nat.le_refl _, fun _ _ => rfl, fun _ _ => rfl, fun _ _ => rfl, fun _ _ => rfl, Nat.le_refl _⟩

theorem close1_spec {st : St} {d : D} {v : Value} (h : FS c g st.L st.τ st.B w) (hr : RepF c g (dom st.L) st.τ.length w d v) : RepF c { g with s := lend g st.L w } (dom st.L) st.τ.length w (st.close1 d) v := by
  have hg := lend_gle h
  cases d <;> try exact hr.mono hg
  rename_i i off len sz
  simp only [St.close1]
  split
  · rename_i e he
    exact .clean _ _ (borrow_spec h he hr).1
  · exact hr.mono hg

theorem close_spec {st : St} {d : D} {v : Value} (h : FS c g st.L st.τ st.B w) (hr : RepF c g (dom st.L) st.τ.length w d v) : RepF c { g with s := lend g st.L w } (dom st.L) st.τ.length w (st.close d) v := by
  cases d <;> try exact close1_spec h hr
  rename_i ds
  obtain ⟨vs, rfl, hl, hrs⟩ := hr.agg_inv
  refine .agg _ _ (by simpa using hl) (fun i e hi => ?_)
  rw [List.getElem?_map] at hi
  cases hq : ds[i]? with
  | none => rw [hq] at hi; cases hi
  | some y =>
    rw [hq] at hi
    injection hi with hi; subst hi
    exact close1_spec h (hrs i y hq)

theorem ret_spec {T : Tab} (hT : TabOk c.P T) {nt : Nat} {st : St} {a : Act} {fn : Func} {r : D} (hi : Inv c nt st a g w) (h : retV T fn.results.toList st = some r) :
    ∃ v ks τ', (results fn a.tmps).run c.P w = .ok v w ∧ RepR c.bx (lend g st.L w) w r v ks ∧ Outs g st.τ τ' ks := by
  have ht : Toks { g with s := lend g st.L w } w st.τ := ⟨fun i j h1 h2 he => by have := hi.fs.inj (.t i) (.t j) h1 h2 he; injection this, fun i hti => by
    obtain ⟨a1, a2⟩ := hi.fs.tok i hti
    refine ⟨?_, a2⟩
    show lend g st.L w (g.tk i) = g.en i
    unfold lend
    rw [if_neg]
    · exact a1
    · rintro ⟨j, ds, hj, he⟩
      have := hi.fs.inj (.l j) (.t i) ⟨ds, hj⟩ hti he
      cases this⟩
  unfold retV at h
  split at h
  · rename_i r0 hr0
    split at h
    · rename_i d hd
      split at h
      · rename_i e τ' ho
        injection h with h; subst h
        obtain ⟨v, h1, h2⟩ := resV_spec hT hi hd
        obtain ⟨ks, h3, h4⟩ := outC_spec ht ho (close_spec hi.fs h2)
        refine ⟨v, ks, τ', ?_, .one _ _ _ h3, ⟨h4.sub, h4.nd, h4.mem⟩⟩
        rw [run_results (vs := [v]) (by rw [hr0]; simp [List.mapM_cons, h1])]
        simp
      · cases h
    · cases h
  · rename_i hne
    split at h
    · rename_i ds hds
      split at h
      · rename_i es τ' ho
        injection h with h; subst h
        obtain ⟨vs, h1, h2, h3, h4⟩ := resL_spec hT hi hds
        obtain ⟨ks, h5, h6⟩ := outCL_spec ht ho (by simpa using h3) (fun i e hj => by
          rw [List.getElem?_map] at hj
          cases hq : ds[i]? with
          | none => rw [hq] at hj; cases hj
          | some y =>
            rw [hq] at hj
            injection hj with hj; subst hj
            obtain ⟨v, hv, hr⟩ := h4 i y hq
            exact ⟨v, hv, close_spec hi.fs hr⟩)
        refine ⟨.tuple vs.toArray, ks, τ', ?_, .tuple _ _ _ h5, ⟨h6.sub, h6.nd, h6.mem⟩⟩
        rw [run_results h1, dif_neg]
        intro hl
        rw [hl] at h2
        match hrs : fn.results.toList, h2 with
        | [x], _ => exact hne x hrs
      · cases h
    · cases h

theorem FS.drop {L : List (Option (List D))} {τ : List Bool} {B : List (List D)} (h : FS c g L τ B w) : FS c { g with s := lend g L w } [] [] B w := by
  refine ⟨h.below, h.entry, h.baseLe, h.nB, lend_zero h, fun k hk hb => ⟨(h.frame k hk hb).1, ?_⟩, h.os, h.tape, h.output, fun i ds hi => (by simp at hi), fun i hi => (by simp at hi), h.newB, fun i ds hi => (by simp at hi),
    fun i ds hi => (h.boxB i ds hi).mono (fun _ _ hr => hr.mono (lend_gle h).ev) (by
      show lend g L w (c.bx i) = g.s (c.bx i)
      rw [lend_box h i (lt_of_get hi), (h.boxB i ds hi).1]) rfl, fun i hi => (by simp at hi), fun x y hx hy he => ?_⟩
  · show lend g L w k = c.s0 k
    unfold lend
    rw [if_neg]
    · exact (h.frame k hk hb).2
    · rintro ⟨j, ds, hj, he⟩
      have := h.newL j ds hj
      omega
  cases x with
  | l i => obtain ⟨ds, hd⟩ := hx; simp at hd
  | t i => simp [live] at hx
  | b i =>
    cases y with
    | l i => obtain ⟨ds, hd⟩ := hy; simp at hd
    | t i => simp [live] at hy
    | b j => exact h.inj (.b i) (.b j) hx hy he

theorem get_envOf : ∀ (ds : List D) (k t : Nat), get (envOf k ds) t = if k ≤ t then (ds[t - k]?).getD .undef else .undef
  | [], k, t => by simp [envOf, get]
  | d :: ds, k, t => by
    simp only [envOf, get]
    rw [get_envOf ds (k + 1) t]
    by_cases hkt : k = t
    · subst hkt; simp
    · have hb : Nat.beq k t = false := by
        cases h : Nat.beq k t
        · rfl
        · exact absurd (Nat.eq_of_beq_eq_true h) hkt
      rw [hb]
      simp only [cond_false]
      by_cases hle : k ≤ t
      · rw [if_pos (by omega), if_pos hle, show t - k = (t - (k + 1)) + 1 by omega, List.getElem?_cons_succ]
      · rw [if_neg (by omega), if_neg hle]

/-- What must be known of a function's text. -/
structure FnOk (P : Program) (f : FuncId) (fi : FI) : Prop where
  fn : ∃ fn : Func, P.funcs[f]? = some fn ∧ (fn.name == "runtime.NumGoroutine") = false ∧ fn.body = some fi.body ∧ fn.results.toList = fi.res ∧ fn.ntmps = fi.nt
  np : fi.np ≤ fi.nt
  code : codeOk fi.an fi.nt fi.body = true

theorem callOK_at {C : Callees} (h : CallOK c C) (w : World) (s : Nat → Nat) : CallOK (c.at_ w s) C := h
theorem tabOk_at {T : Tab} (h : TabOk c.P T) (w : World) (s : Nat → Nat) : TabOk (c.at_ w s).P T := h

theorem fn_spec {T : Tab} (hT : TabOk c.P T) {C : Callees} (hC : CallOK c C) (hD : ∀ w s, DrawOK (c.at_ w s) T C) {f : FuncId} {fi : FI} {args : List D} {B B' : List (List D)} {r : D} (hf : FnOk c.P f fi) (h : runV T C fi args B = some (r, B'))
    {vs : Array Value} (hfs : FS (c.at_ w g.s) g [] [] B w) (hl : args.length = vs.size) (ha : ∀ (i : Nat) (d : D), args[i]? = some d → ∃ v : Value, vs[i]? = some v ∧ Rep c.bx g.s w d v) :
    Calls c.P f vs w fun e w' => ∃ v, e = .returned v ∧ ∃ (g' : Gh) (ks : List Nat), FS (c.at_ w g.s) g' [] [] B' w' ∧ RepR c.bx g'.s w' r v ks ∧ ks.Nodup ∧ ∀ k, k ∈ ks → w.heap.size ≤ k := by
  obtain ⟨fn, h1, h2, h3, h4, h5⟩ := hf.fn
  have h6 := hf.np
  have h7 := hf.code
  unfold runV at h
  cases hn : Nat.beq args.length fi.np with
  | false => simp [hn] at h
  | true =>
    simp only [hn, cond_true] at h
    have hn := beq_of hn
    refine calls_of_wp h1 h3 ?_
    have hinv : Inv (c.at_ w g.s) fi.nt ⟨envOf 0 args, [], [], B⟩ { tmps := vs ++ Array.replicate (fn.ntmps - vs.size) Go.undef, defers := [] } g w := by
      refine ⟨hfs, fun t => ?_, ?_, rfl⟩
      · show RepF _ _ _ _ _ (get (envOf 0 args) t) ((vs ++ Array.replicate (fn.ntmps - vs.size) Go.undef).getD t Go.undef)
        rw [get_envOf]
        simp only [Nat.zero_le, if_true, Nat.sub_zero]
        cases hd : args[t]? with
        | none => exact .undef _
        | some d =>
          obtain ⟨v, hv, hr⟩ := ha t d hd
          have : (vs ++ Array.replicate (fn.ntmps - vs.size) Go.undef).getD t Go.undef = v := by
            rw [Array.getD_eq_getD_getElem?, Array.getElem?_append_left (by have := (Array.getElem?_eq_some_iff.1 hv).1; exact this), hv]; rfl
          rw [this]; exact .clean _ _ hr
      · simp; omega
    have hdr := hD w g.s
    split at h
    · cases h
    · rename_i x st hne hcode
      split at h
      · rename_i r' hret
        injection h with h; injection h with e1 e2; subst e1; subst e2
        refine code_spec (c := c.at_ w g.s) hT hC hdr fi.body hcode hinv h7 (fun g' a' w' hi' => ?_)
        obtain ⟨v, ks, τ', q1, q2, q3⟩ := ret_spec (c := c.at_ w g.s) hT hi' (fn := fn) (by rw [h4]; exact hret)
        have hout : ∃ v, (results fn a'.tmps).run c.P w' = .ok v w' ∧ ∃ u, Ending.returned v = .returned u ∧ ∃ (g' : Gh) (ks : List Nat), FS (c.at_ w g.s) g' [] [] st.B w' ∧ RepR c.bx g'.s w' r' u ks ∧ ks.Nodup ∧ ∀ k, k ∈ ks → w.heap.size ≤ k :=
          ⟨v, q1, v, rfl, { g' with s := lend g' st.L w' }, ks, hi'.fs.drop, q2, q3.nd, fun k hk => by obtain ⟨i, a1, _, a3⟩ := q3.mem k hk; rw [← a3]; exact hi'.fs.newT i a1⟩
        cases x with
        | norm => exact ⟨hi'.defers, hout⟩
        | ret => exact ⟨hi'.defers, hout⟩
        | exit i => exact absurd rfl (hne i)
      · cases h
    · cases h

/-- One function more. -/
theorem CallOK.upd {T : Tab} (hT : TabOk c.P T) {C : Callees} (hC : CallOK c C) (hD : ∀ w s, DrawOK (c.at_ w s) T C) {f : FuncId} {fi : FI} (hf : FnOk c.P f fi) {h : List D → Hp → Option (D × Hp)}
    (hh : ∀ args B r B', h args B = some (r, B') → runV T C fi args B = some (r, B')) : CallOK c (upd C f h) := fun f' args B r B' hu => by
  unfold V.upd at hu
  cases hb : Nat.beq f f' with
  | true =>
    rw [hb] at hu
    simp only [cond_true] at hu
    obtain rfl := Nat.eq_of_beq_eq_true hb
    obtain ⟨fn, h1, h2, h3, _⟩ := hf.fn
    exact ⟨⟨fn, h1, h2, by rw [h3]; rfl⟩, fun w g vs hfs hl ha => fn_spec hT hC hD hf (hh args B r B' hu) hfs hl ha⟩
  | false =>
    rw [hb] at hu
    exact hC f' args B r B' hu

theorem CallOK.none : CallOK c noCallees := fun f args B r B' h => by cases h

end Go.Proofs.YtdmlojinmkcldaaDoor.V
