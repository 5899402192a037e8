/-
What a call handed back, adopted; what it takes, lent; the operation 'call'.
-/
import Derived.Test.YtploddijjofphaaDoorUR
namespace Go.Proofs.YtploddijjofphaaDoor.V
set_option linter.unusedSimpArgs false
set_option linter.unusedVariables false
open Go Go.RowKit

variable {c : Cx} {g : Gh} {nL : Nat → Prop} {nT : Nat} {w : World}

theorem repOL_of {R : D → Value → List Nat → Prop} : ∀ (ds : List D) (vs : List Value), ds.length = vs.length → (∀ (i : Nat) (d : D) (v : Value), ds[i]? = some d → vs[i]? = some v → R d v []) → RepOL R ds vs []
  | [], [], _, _ => .nil
  | d :: ds, v :: vs, hl, h => by
    have := RepOL.cons d v [] ds vs [] (h 0 d v rfl rfl) (repOL_of ds vs (by simpa using hl) (fun i d v h1 h2 => h (i + 1) d v (by simpa using h1) (by simpa using h2)))
    simpa using this

/-- What adopting a list must do. -/
def AdoptsTo (c : Cx) (g : Gh) (L : List (Option (List D))) (τ : List Bool) (B : List (List D)) (w : World) (τ' : List Bool) (ls : List Nat) (Q : Gh → Prop) : Prop :=
  ∃ g', FS c g' L τ' B w ∧ Gle c g (dom L) τ.length w g' (dom L) τ'.length w ∧ (g'.s = g.s ∧ g'.bx = g.bx) ∧ Apart c g' L τ' ls ∧ Q g'

theorem adoptL_spec {L : List (Option (List D))} {B : List (List D)} {ks : List Nat} {ds : List D} {vs : List Value} {bx : List Nat} {s : Nat → Nat} (hr : RepOL (RepO bx s w) ds vs ks) : ∀ {g : Gh} {τ : List Bool} {ls : List Nat}, g.s = s ∧ g.bx = bx → FS c g L τ B w → Apart c g L τ (ks ++ ls) →
    AdoptsTo c g L τ B w (adoptL τ ds).2 ls fun g' => (adoptL τ ds).1.length = vs.length ∧ ∀ (i : Nat) (d : D), (adoptL τ ds).1[i]? = some d → ∃ v, vs[i]? = some v ∧ RepF c g' (dom L) (adoptL τ ds).2.length w d v := by
  induction hr with
  | nil => intro g τ ls _ h ha; exact ⟨g, h, Gle.refl _ _ _ _ _, ⟨rfl, rfl⟩, ha, rfl, fun i d hi => by simp [adoptL] at hi⟩
  | cons d v k1 ds vs k2 h0 _ ih =>
    intro g τ ls hs h ha
    obtain ⟨rfl, rfl⟩ := hs
    obtain ⟨g1, a1, a2, a3, a4, a5⟩ := adopt_one (ls := k2 ++ ls) h h0 (by rw [← List.append_assoc]; exact ha)
    obtain ⟨g2, b1, b2, b3, b4, b5, b6⟩ := ih a3 a1 a5
    refine ⟨g2, b1, a2.trans b2, ⟨b3.1.trans a3.1, b3.2.trans a3.2⟩, b4, by simp [adoptL, b5], fun i e hi => ?_⟩
    cases i with
    | zero => simp [adoptL] at hi; subst hi; exact ⟨v, rfl, a4.mono b2⟩
    | succ i => simp [adoptL] at hi; obtain ⟨u, hu, hru⟩ := b6 i e hi; exact ⟨u, by simpa using hu, hru⟩

theorem repC_norm {bx : List Nat} {s : Nat → Nat} {d : D} {v : Value} {ks : List Nat} (h : RepC bx s w d v ks) : (∃ ds vs, d = .agg ds ∧ v = .agg vs.toArray ∧ RepOL (RepO bx s w) ds vs ks) ∨ ((∀ ds, d ≠ .agg ds) ∧ RepO bx s w d v ks) := by
  cases h with
  | agg ds vs ks h => exact .inl ⟨ds, vs, rfl, rfl, h⟩
  | one _ _ _ h =>
    cases h with
    | fresh sz xs k cap cs t h hs hh hc => exact .inr ⟨fun ds e => (by cases e), .fresh sz xs k cap cs t h hs hh hc⟩
    | tight sz _ h => exact .inr ⟨fun ds e => (by cases e), .tight sz _ h⟩
    | clean _ _ h =>
      cases h with
      | agg ds vs hl h =>
        refine .inl ⟨ds, vs.toList, rfl, by simp, repOL_of ds vs.toList (by simpa using hl) (fun i d v h1 h2 => ?_)⟩
        have := h i d h1
        have e : vs.getD i Go.undef = v := by rw [Array.getElem?_toList] at h2; simp [Array.getD_eq_getD_getElem?, h2]
        rw [e] at this
        exact .clean _ _ this
      | _ => exact .inr ⟨fun ds e => (by cases e), .clean _ _ (by constructor <;> assumption)⟩

theorem adoptC_ne {τ : List Bool} {d : D} (h : ∀ ds, d ≠ .agg ds) : adoptC τ d = adopt τ d := by
  cases d <;> first | rfl | exact absurd rfl (h _)

theorem adoptC_spec {L : List (Option (List D))} {B : List (List D)} {ks ls : List Nat} {d : D} {v : Value} {g : Gh} {τ : List Bool} (hr : RepC g.bx g.s w d v ks) (h : FS c g L τ B w) (ha : Apart c g L τ (ks ++ ls)) :
    AdoptsTo c g L τ B w (adoptC τ d).2 ls fun g' => RepF c g' (dom L) (adoptC τ d).2.length w (adoptC τ d).1 v := by
  rcases repC_norm hr with ⟨ds, vs, rfl, rfl, hr'⟩ | ⟨hne, hr⟩
  · obtain ⟨g', a1, a2, a3, a4, a5, a6⟩ := adoptL_spec hr' ⟨rfl, rfl⟩ h ha
    refine ⟨g', a1, a2, a3, a4, .agg _ _ (by simpa using a5) (fun i d hi => ?_)⟩
    obtain ⟨u, hu, hru⟩ := a6 i d hi
    simp [Array.getD_eq_getD_getElem?, hu]; exact hru
  · rw [adoptC_ne hne]
    obtain ⟨g', a1, a2, a3, a4, a5⟩ := adopt_one h hr ha
    exact ⟨g', a1, a2, a3, a5, a4⟩

theorem adoptCL_spec {L : List (Option (List D))} {B : List (List D)} {ks : List Nat} {ds : List D} {vs : List Value} {bx : List Nat} {s : Nat → Nat} (hr : RepOL (RepC bx s w) ds vs ks) : ∀ {g : Gh} {τ : List Bool} {ls : List Nat}, g.s = s ∧ g.bx = bx → FS c g L τ B w → Apart c g L τ (ks ++ ls) →
    AdoptsTo c g L τ B w (adoptCL τ ds).2 ls fun g' => (adoptCL τ ds).1.length = vs.length ∧ ∀ (i : Nat) (d : D), (adoptCL τ ds).1[i]? = some d → ∃ v, vs[i]? = some v ∧ RepF c g' (dom L) (adoptCL τ ds).2.length w d v := by
  induction hr with
  | nil => intro g τ ls _ h ha; exact ⟨g, h, Gle.refl _ _ _ _ _, ⟨rfl, rfl⟩, ha, rfl, fun i d hi => by simp [adoptCL] at hi⟩
  | cons d v k1 ds vs k2 h0 _ ih =>
    intro g τ ls hs h ha
    obtain ⟨rfl, rfl⟩ := hs
    obtain ⟨g1, a1, a2, a3, a4, a5⟩ := adoptC_spec (ls := k2 ++ ls) h0 h (by rw [← List.append_assoc]; exact ha)
    obtain ⟨g2, b1, b2, b3, b4, b5, b6⟩ := ih a3 a1 a4
    refine ⟨g2, b1, a2.trans b2, ⟨b3.1.trans a3.1, b3.2.trans a3.2⟩, b4, by simp [adoptCL, b5], fun i e hi => ?_⟩
    cases i with
    | zero => simp [adoptCL] at hi; subst hi; exact ⟨v, rfl, a5.mono b2⟩
    | succ i => simp [adoptCL] at hi; obtain ⟨u, hu, hru⟩ := b6 i e hi; exact ⟨u, by simpa using hu, hru⟩

theorem adoptR_spec {L : List (Option (List D))} {B : List (List D)} {ks : List Nat} {d : D} {v : Value} {g : Gh} {τ : List Bool} (hr : RepR g.bx g.s w d v ks) (h : FS c g L τ B w) (ha : Apart c g L τ ks) :
    ∃ g', FS c g' L (adoptR τ d).2 B w ∧ Gle c g (dom L) τ.length w g' (dom L) (adoptR τ d).2.length w ∧ RepF c g' (dom L) (adoptR τ d).2.length w (adoptR τ d).1 v := by
  cases hr with
  | tuple ds vs ks hr =>
    obtain ⟨g', a1, a2, a3, a4, a5, a6⟩ := adoptCL_spec (ls := []) hr ⟨rfl, rfl⟩ h (by simpa using ha)
    refine ⟨g', a1, a2, .tuple _ _ (by simpa using a5) (fun i d hi => ?_)⟩
    obtain ⟨u, hu, hru⟩ := a6 i d hi
    simp [Array.getD_eq_getD_getElem?, hu]; exact hru
  | one _ _ _ hr =>
    have hne : adoptR τ d = adoptC τ d := by
      cases d <;> try rfl
      rename_i ds
      rcases repC_norm hr with ⟨_, _, e, _⟩ | ⟨_, hr⟩
      · cases e
      · cases hr with | clean _ _ h => cases h
    rw [hne]
    obtain ⟨g', a1, a2, a3, a4, a5⟩ := adoptC_spec (ls := []) hr h (by simpa using ha)
    exact ⟨g', a1, a2, a5⟩

/-! ### What is plain leads to no memory -/
mutual
theorem plain_rep {bx bx' : List Nat} {s s' : Nat → Nat} {w w' : World} : ∀ (d : D) {v : Value}, d.plain = true → Rep bx s w d v → Rep bx' s' w' d v
  | .bool b, v, _, h => by cases h; exact .bool _
  | .int k n, v, _, h => by cases h; exact .int _ _
  | .str l, v, _, h => by cases h; exact .str _
  | .nilp, v, _, h => by cases h; exact .nilp
  | .nili, v, _, h => by cases h; exact .nili
  | .nilsl, v, hp, h => by simp [D.plain] at hp
  | .nilfn, v, _, h => by cases h; exact .nilfn
  | .iface t d, v, hp, h => by
    cases h with | iface _ _ u hu => exact .iface _ _ _ (plain_rep d hp hu)
  | .agg ds, v, hp, h => by
    cases h with | agg _ vs hl h => exact .agg _ _ hl (plain_repL ds hp h)
  | .undef, v, hp, h => by simp [D.plain] at hp
  | .lptr _ _, v, hp, h => by simp [D.plain] at hp
  | .bptr _ _, v, hp, h => by simp [D.plain] at hp
  | .fptr _, v, hp, h => by simp [D.plain] at hp
  | .vec _ _ _, v, hp, h => by simp [D.plain] at hp
  | .lsl _ _ _ _, v, hp, h => by simp [D.plain] at hp
  | .tuple _, v, hp, h => by cases h
  | .fn _ _, v, hp, h => by simp [D.plain] at hp
theorem plain_repL {bx bx' : List Nat} {s s' : Nat → Nat} {w w' : World} : ∀ (ds : List D) {f : Nat → Value}, D.plain.plainL ds = true → (∀ (i : Nat) (d : D), ds[i]? = some d → Rep bx s w d (f i)) → ∀ (i : Nat) (d : D), ds[i]? = some d → Rep bx' s' w' d (f i)
  | [], f, _, h, i, d, hi => by simp at hi
  | x :: xs, f, hp, h, i, d, hi => by
    simp only [D.plain.plainL, Bool.and_eq_true] at hp
    cases i with
    | zero => simp at hi; subst hi; exact plain_rep x hp.1 (h 0 x rfl)
    | succ i => exact plain_repL xs (f := fun j => f (j + 1)) hp.2 (fun j e hj => h (j + 1) e (by simpa using hj)) i d (by simpa using hi)
end

end Go.Proofs.YtploddijjofphaaDoor.V
