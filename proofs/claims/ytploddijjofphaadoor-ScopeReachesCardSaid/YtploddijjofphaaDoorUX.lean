/-
What a call hands back; functions.
-/
import Derived.Test.YtploddijjofphaaDoorUW
namespace Go.Proofs.YtploddijjofphaaDoor.V
set_option linter.unusedSimpArgs false
set_option linter.unusedVariables false
open Go Go.RowKit

variable {c : Cx} {g : Gh} {w : World}

structure Outs (g : Gh) (τ τ' : List Bool) (ks : List Nat) : Prop where
  sub : ∀ i : Nat, τ'[i]? = some true → τ[i]? = some true
  nd : ks.Nodup
  mem : ∀ k, k ∈ ks → ∃ i : Nat, τ[i]? = some true ∧ τ'[i]? ≠ some true ∧ g.ow i = true ∧ g.tk i = k

theorem Outs.nil (g : Gh) (τ : List Bool) : Outs g τ τ [] := ⟨fun _ h => h, List.nodup_nil, fun k hk => by cases hk⟩

/-- What is known of the frame's own rows. -/
structure Toks (g : Gh) (w : World) (τ : List Bool) : Prop where
  inj : ∀ i j : Nat, τ[i]? = some true → τ[j]? = some true → g.ow i = true → g.ow j = true → g.tk i = g.tk j → i = j
  tok : ∀ i : Nat, τ[i]? = some true → g.ow i = true → g.s (g.tk i) = g.en i ∧ ∃ (cs : Array Value) (t : TypeId), w.heap[g.tk i]? = some (.cells cs t (0, 0)) ∧ cs.size = g.bs i

theorem Toks.sub {τ τ' : List Bool} (h : Toks g w τ) (hs : ∀ i : Nat, τ'[i]? = some true → τ[i]? = some true) : Toks g w τ' :=
  ⟨fun i j hi hj hw hw' he => h.inj i j (hs i hi) (hs j hj) hw hw' he, fun i hi hw => h.tok i (hs i hi) hw⟩

theorem Outs.trans {τ τ1 τ2 : List Bool} {ks ls : List Nat} (ht : Toks g w τ) (h1 : Outs g τ τ1 ks) (h2 : Outs g τ1 τ2 ls) : Outs g τ τ2 (ks ++ ls) := by
  refine ⟨fun i hi => h1.sub i (h2.sub i hi), List.nodup_append.2 ⟨h1.nd, h2.nd, fun k hk l hl he => ?_⟩, fun k hk => ?_⟩
  · subst he
    obtain ⟨i, a1, a2, aw, a3⟩ := h1.mem k hk
    obtain ⟨j, b1, b2, bw, b3⟩ := h2.mem k hl
    have := ht.inj i j a1 (h1.sub j b1) aw bw (a3.trans b3.symm)
    subst this
    exact a2 b1
  · rcases List.mem_append.1 hk with hk | hk
    · obtain ⟨i, a1, a2, aw, a3⟩ := h1.mem k hk
      exact ⟨i, a1, fun h => a2 (h2.sub i h), aw, a3⟩
    · obtain ⟨i, a1, a2, aw, a3⟩ := h2.mem k hk
      exact ⟨i, h1.sub i a1, a2, aw, a3⟩

theorem outD_spec {nL : Nat → Prop} {nT : Nat} {τ τ' : List Bool} {d e : D} {v : Value} (ht : Toks g w τ) (h : outD τ d = some (e, τ')) (hr : RepF c g nL nT w d v) : ∃ ks, RepO g.bx g.s w e v ks ∧ Outs g τ τ' ks := by
  have clean : ∀ {x : D}, x.demote = some e → τ' = τ → RepF c g nL nT w x v → ∃ ks, RepO g.bx g.s w e v ks ∧ Outs g τ τ' ks := fun h1 h2 hr => ⟨[], .clean _ _ (demote_clean h1 hr), by rw [h2]; exact .nil g τ⟩
  unfold outD at h
  split at h
  · rename_i sz xs i
    have hsub : ∀ j : Nat, (τ.set i false)[j]? = some true → τ[j]? = some true := fun j hj => by
      by_cases hij : i = j
      · subst hij; rw [List.getElem?_set] at hj; simp at hj
      · rw [List.getElem?_set_ne hij] at hj; exact hj
    obtain ⟨hi, hc, hcase⟩ := hr.own_inv
    split at h
    · rename_i hti
      injection h with h; injection h with h1 h2; subst h1; subst h2
      rcases hcase with ⟨rfl, hex⟩ | ⟨how, cap, rfl, hen, hbs⟩
      · exact ⟨[], .tight _ _ hex, hsub, List.nodup_nil, fun k hk => by cases hk⟩
      · obtain ⟨b1, cs, t, b2, b3⟩ := ht.tok i hti how
        refine ⟨[g.tk i], .fresh sz xs (g.tk i) cap cs t hc (b1.trans hen.symm) b2 (b3.trans hbs.symm), hsub, by simp, fun k hk => ?_⟩
        simp at hk; subst hk
        refine ⟨i, hti, ?_, how, rfl⟩
        rw [List.getElem?_set_self (lt_of_get hti)]; simp
    · injection h with h; injection h with h1 h2; subst h1; subst h2
      exact ⟨[], .clean _ _ hc, .nil g τ⟩
  · rename_i sz xs
    injection h with h; injection h with h1 h2; subst h1; subst h2
    refine ⟨[], ?_, .nil g τ⟩
    cases xs with
    | nil => exact .tight _ _ hr.exact_inv
    | cons _ _ => exact .clean _ _ hr.exact_inv.to_none
  · split at h
    · rename_i e' he
      injection h with h; injection h with h1 h2; subst h1
      exact clean he h2.symm hr
    · cases h

theorem outL_spec {nL : Nat → Prop} {nT : Nat} : ∀ {ds es : List D} {τ τ' : List Bool} {vs : List Value}, Toks g w τ → outL τ ds = some (es, τ') → ds.length = vs.length → (∀ (i : Nat) (d : D), ds[i]? = some d → ∃ v, vs[i]? = some v ∧ RepF c g nL nT w d v) →
    ∃ ks, RepOL (RepO g.bx g.s w) es vs ks ∧ Outs g τ τ' ks
  | [], es, τ, τ', vs, _, h, hl, _ => by
    simp [outL] at h
    obtain ⟨rfl, rfl⟩ := h
    cases vs with
    | nil => exact ⟨[], .nil, .nil g _⟩
    | cons _ _ => simp at hl
  | d :: ds, es, τ, τ', [], _, h, hl, _ => by simp at hl
  | d :: ds, es, τ, τ', v :: vs, ht, h, hl, hr => by
    simp only [outL] at h
    split at h
    · rename_i y τ1 h1
      split at h
      · rename_i ys τ2 h2
        injection h with h; injection h with e1 e2; subst e1; subst e2
        obtain ⟨v', hv', hrx⟩ := hr 0 d rfl
        simp at hv'; subst hv'
        obtain ⟨ks, a1, a2⟩ := outD_spec ht h1 hrx
        obtain ⟨ls, b1, b2⟩ := outL_spec (ht.sub a2.sub) h2 (by simpa using hl) (fun i d hi => by obtain ⟨v, hv, hr⟩ := hr (i + 1) d (by simpa using hi); exact ⟨v, by simpa using hv, hr⟩)
        exact ⟨ks ++ ls, .cons _ _ _ _ _ _ a1 b1, a2.trans ht b2⟩
      · cases h
    · cases h

theorem outC_spec {nL : Nat → Prop} {nT : Nat} {τ τ' : List Bool} {d e : D} {v : Value} (ht : Toks g w τ) (h : outC τ d = some (e, τ')) (hr : RepF c g nL nT w d v) : ∃ ks, RepC g.bx g.s w e v ks ∧ Outs g τ τ' ks := by
  unfold outC at h
  split at h
  · rename_i ds
    obtain ⟨vs, rfl, hl, hrs⟩ := hr.agg_inv
    split at h
    · rename_i es τ1 h1
      injection h with h; injection h with e1 e2; subst e1; subst e2
      obtain ⟨ks, a1, a2⟩ := outL_spec (vs := vs.toList) ht h1 (by simpa using hl) (fun i d hi => by
        have := lt_of_get hi
        exact ⟨_, by rw [Array.getElem?_toList]; exact getD_some (by omega), hrs i d hi⟩)
      refine ⟨ks, ?_, a2⟩
      have := RepC.agg (bx := g.bx) (s := g.s) (w := w) es vs.toList ks a1
      simpa using this
    · cases h
  · obtain ⟨ks, a1, a2⟩ := outD_spec ht h hr
    exact ⟨ks, .one _ _ _ a1, a2⟩

theorem outCL_spec {nL : Nat → Prop} {nT : Nat} : ∀ {ds es : List D} {τ τ' : List Bool} {vs : List Value}, Toks g w τ → outCL τ ds = some (es, τ') → ds.length = vs.length → (∀ (i : Nat) (d : D), ds[i]? = some d → ∃ v, vs[i]? = some v ∧ RepF c g nL nT w d v) →
    ∃ ks, RepOL (RepC g.bx g.s w) es vs ks ∧ Outs g τ τ' ks
  | [], es, τ, τ', vs, _, h, hl, _ => by
    simp [outCL] at h
    obtain ⟨rfl, rfl⟩ := h
    cases vs with
    | nil => exact ⟨[], .nil, .nil g _⟩
    | cons _ _ => simp at hl
  | d :: ds, es, τ, τ', [], _, h, hl, _ => by simp at hl
  | d :: ds, es, τ, τ', v :: vs, ht, h, hl, hr => by
    simp only [outCL] at h
    split at h
    · rename_i y τ1 h1
      split at h
      · rename_i ys τ2 h2
        injection h with h; injection h with e1 e2; subst e1; subst e2
        obtain ⟨v', hv', hrx⟩ := hr 0 d rfl
        simp at hv'; subst hv'
        obtain ⟨ks, a1, a2⟩ := outC_spec ht h1 hrx
        obtain ⟨ls, b1, b2⟩ := outCL_spec (ht.sub a2.sub) h2 (by simpa using hl) (fun i d hi => by obtain ⟨v, hv, hr⟩ := hr (i + 1) d (by simpa using hi); exact ⟨v, by simpa using hv, hr⟩)
        exact ⟨ks ++ ls, .cons _ _ _ _ _ _ a1 b1, a2.trans ht b2⟩
      · cases h
    · cases h

end Go.Proofs.YtploddijjofphaaDoor.V
