import Derived.Test.YtbbbhalmlboapaaDoorUC
/-
A call's own frame: what its slots hold, its own boxes and rows; what a step leaves as it was.
-/
namespace Go.Proofs.YtbbbhalmlboapaaDoor.V
set_option linter.unusedSimpArgs false
set_option linter.unusedVariables false
open Go Go.RowKit

/-- What does not change while a call runs: the boxes that all shared when it began; the rows that it may append to since then; the world in which the call began, and what was stable there; the world in which the whole began. -/
structure Cx where
  P : Program
  bx : List Nat
  mv : List Nat
  base : Nat
  w0 : World
  we : World
  s0 : Nat → Nat

/-- Where boxes and rows lie: the frame's own boxes; its rows: whether there is one, where it lies, where it ends, how many cells it has; the shared boxes; how much of each block is stable. -/
structure Gh where
  loc : Nat → Nat
  tk : Nat → Nat
  en : Nat → Nat
  bs : Nat → Nat
  ow : Nat → Bool
  bx : List Nat
  s : Nat → Nat

/-- The boxes that there are. -/
def dom (L : List (Option (List D))) : Nat → Prop := fun i => ∃ ds, L[i]? = some (some ds)

inductive RepF (c : Cx) (g : Gh) (nL : Nat → Prop) (nT : Nat) (w : World) : D → Value → Prop
  | undef (v : Value) : RepF c g nL nT w .undef v
  | clean (d : D) (v : Value) (h : Rep g.bx g.s w d v) : RepF c g nL nT w d v
  | lptr (i off : Nat) (hi : nL i) : RepF c g nL nT w (.lptr i off) (.pointer (some ⟨g.loc i, off, none⟩))
  | lsl (i off len sz cap : Nat) (hi : nL i) (hc : len ≤ cap) : RepF c g nL nT w (.lsl i off len sz) (.slice (some ⟨g.loc i, off, none⟩) len cap)
  | own (i sz : Nat) (xs : List D) (cap : Nat) (hi : i < nT) (h : Rep g.bx g.s w (.vec sz xs .none) (.slice (some ⟨g.tk i, 0, none⟩) xs.length cap))
      (ho : g.ow i = true) (he : xs.length * sz = g.en i) (hb : cap * sz = g.bs i) : RepF c g nL nT w (.vec sz xs (.own i)) (.slice (some ⟨g.tk i, 0, none⟩) xs.length cap)
  | tight (i sz : Nat) (v : Value) (hi : i < nT) (h : Rep g.bx g.s w (.vec sz [] .exact) v) : RepF c g nL nT w (.vec sz [] (.own i)) v
  | fresh (sz : Nat) (xs : List D) (v : Value) (h : Rep g.bx g.s w (.vec sz xs .none) v) : RepF c g nL nT w (.vec sz xs .fresh) v
  | boxr (sz : Nat) (xs : List D) (v : Value) (h : Rep g.bx g.s w (.vec sz xs .none) v) : RepF c g nL nT w (.vec sz xs .box) v
  | agg (ds : List D) (vs : Array Value) (hl : ds.length = vs.size) (h : ∀ i d, ds[i]? = some d → RepF c g nL nT w d (vs.getD i Go.undef)) : RepF c g nL nT w (.agg ds) (.agg vs)
  | tuple (ds : List D) (vs : Array Value) (hl : ds.length = vs.size) (h : ∀ i d, ds[i]? = some d → RepF c g nL nT w d (vs.getD i Go.undef)) : RepF c g nL nT w (.tuple ds) (.tuple vs)

/-- From one state to another one: what was told stays told. -/
structure Gle (c : Cx) (g : Gh) (nL : Nat → Prop) (nT : Nat) (w : World) (g' : Gh) (nL' : Nat → Prop) (nT' : Nat) (w' : World) : Prop where
  ev : Ev g.bx g.s w g'.bx g'.s w'
  leL : ∀ i, nL i → nL' i
  leT : nT ≤ nT'
  loc : ∀ i, nL i → g'.loc i = g.loc i
  tk : ∀ i, i < nT → g'.tk i = g.tk i
  en : ∀ i, i < nT → g'.en i = g.en i
  bs : ∀ i, i < nT → g'.bs i = g.bs i
  ow : ∀ i, i < nT → g'.ow i = g.ow i
  size : w.heap.size ≤ w'.heap.size

theorem Gle.refl (c : Cx) (g : Gh) (nL : Nat → Prop) (nT : Nat) (w : World) : Gle c g nL nT w g nL nT w :=
  ⟨Ev.refl _ _ _, fun _ h => h, Nat.le_refl _, fun _ _ => rfl, fun _ _ => rfl, fun _ _ => rfl, fun _ _ => rfl, fun _ _ => rfl, Nat.le_refl _⟩

theorem Gle.trans {c : Cx} {g g' g'' : Gh} {nL nL' nL'' : Nat → Prop} {nT nT' nT'' : Nat} {w w' w'' : World} (h : Gle c g nL nT w g' nL' nT' w') (h' : Gle c g' nL' nT' w' g'' nL'' nT'' w'') :
    Gle c g nL nT w g'' nL'' nT'' w'' :=
  ⟨Ev.trans h.size h.ev h'.ev, fun i hi => h'.leL i (h.leL i hi), Nat.le_trans h.leT h'.leT, fun i hi => (h'.loc i (h.leL i hi)).trans (h.loc i hi),
    fun i hi => (h'.tk i (Nat.lt_of_lt_of_le hi h.leT)).trans (h.tk i hi), fun i hi => (h'.en i (Nat.lt_of_lt_of_le hi h.leT)).trans (h.en i hi),
    fun i hi => (h'.bs i (Nat.lt_of_lt_of_le hi h.leT)).trans (h.bs i hi), fun i hi => (h'.ow i (Nat.lt_of_lt_of_le hi h.leT)).trans (h.ow i hi), Nat.le_trans h.size h'.size⟩

theorem RepF.mono {c : Cx} {g g' : Gh} {nL nL' : Nat → Prop} {nT nT' : Nat} {w w' : World} (hg : Gle c g nL nT w g' nL' nT' w') {d : D} {v : Value} (h : RepF c g nL nT w d v) : RepF c g' nL' nT' w' d v := by
  induction h with
  | undef v => exact .undef v
  | clean d v h => exact .clean d v (h.mono hg.ev)
  | lptr i off hi => rw [← hg.loc i hi]; exact .lptr i off (hg.leL i hi)
  | lsl i off len sz cap hi hc => rw [← hg.loc i hi]; exact .lsl i off len sz cap (hg.leL i hi) hc
  | own i sz xs cap hi h ho he hb =>
    have h2 := h.mono hg.ev
    rw [← hg.tk i hi] at h2 ⊢
    exact .own i sz xs cap (Nat.lt_of_lt_of_le hi hg.leT) h2 ((hg.ow i hi).trans ho) (he.trans (hg.en i hi).symm) (hb.trans (hg.bs i hi).symm)
  | tight i sz v hi h => exact .tight i sz v (Nat.lt_of_lt_of_le hi hg.leT) (h.mono hg.ev)
  | fresh sz xs v h => exact .fresh sz xs v (h.mono hg.ev)
  | boxr sz xs v h => exact .boxr sz xs v (h.mono hg.ev)
  | agg ds vs hl h ih => exact .agg ds vs hl ih
  | tuple ds vs hl h ih => exact .tuple ds vs hl ih

/-! ### The names of blocks that may be written -/
inductive Nm where
  | l (i : Nat) | t (i : Nat) | b (i : Nat)
  deriving DecidableEq

def blk (g : Gh) : Nm → Nat
  | .l i => g.loc i
  | .t i => g.tk i
  | .b i => g.bx.getD i 0

def live (g : Gh) (L : List (Option (List D))) (τ : List Bool) : Nm → Prop
  | .l i => ∃ ds, L[i]? = some (some ds)
  | .t i => τ[i]? = some true ∧ g.ow i = true
  | .b i => i < g.bx.length

/-- None of the first n cells is frozen. -/
def nofr (fr : Nat × Nat) (n : Nat) : Prop := fr.1 ≤ fr.2 ∧ ∀ o, o < n → (decide (fr.1 ≤ o) && decide (o < fr.2)) = false

theorem nofr_zero (n : Nat) : nofr (0, 0) n := ⟨Nat.le_refl _, fun o _ => by simp⟩

/-- A block that holds these values, and may be written. -/
def BoxAt (R : D → Value → Prop) (s : Nat → Nat) (w : World) (k : Nat) (ds : List D) : Prop :=
  s k = 0 ∧ ∃ (cs : Array Value) (t : TypeId) (fr : Nat × Nat), w.heap[k]? = some (.cells cs t fr) ∧ nofr fr cs.size ∧ ∀ (j : Nat) (d : D), ds[j]? = some d → ∃ v : Value, cs[j]? = some v ∧ R d v

/-- Of the rows that were handed in: what was stable is. -/
def MvS (c : Cx) (g : Gh) (w : World) : Prop :=
  ∀ k, k ∈ c.mv → k < w.heap.size ∧ c.s0 k ≤ g.s k ∧ ∀ o v, o < c.s0 k → c.we.cell? ⟨k, o, none⟩ = some v → w.cell? ⟨k, o, none⟩ = some v

theorem MvS.step {c : Cx} {g g' : Gh} {w w' : World} (h : MvS c g w) (hev : Ev g.bx g.s w g'.bx g'.s w') (hsz : w.heap.size ≤ w'.heap.size) : MvS c g' w' := fun k hk => by
  obtain ⟨h1, h2, h3⟩ := h k hk
  exact ⟨Nat.lt_of_lt_of_le h1 hsz, Nat.le_trans h2 (hev.le k h1), fun o v ho hv => hev.cell k o v (Nat.lt_of_lt_of_le ho h2) (h3 o v ho hv)⟩

theorem MvS.gle {c c2 : Cx} {g g' : Gh} {nL nL' : Nat → Prop} {nT nT' : Nat} {w w' : World} (h : MvS c g w) (hg : Gle c2 g nL nT w g' nL' nT' w') : MvS c g' w' := h.step hg.ev hg.size

/-- The frame's own memory. -/
structure FS (c : Cx) (g : Gh) (L : List (Option (List D))) (τ : List Bool) (B : List (List D)) (w : World) : Prop where
  below : Below c.base c.w0 w
  entry : c.we.heap.size ≤ w.heap.size
  baseLe : c.base ≤ c.we.heap.size
  nB : B.length = g.bx.length
  pre : ∀ (b k : Nat), c.bx[b]? = some k → g.bx[b]? = some k
  zero : ∀ k, w.heap.size ≤ k → g.s k = 0
  frame : ∀ k, k < c.we.heap.size → k ∉ c.bx → k ∉ c.mv → w.heap[k]? = c.we.heap[k]? ∧ g.s k = c.s0 k
  os : w.os = c.we.os
  tape : w.tape = c.we.tape
  output : w.output = c.we.output
  newL : ∀ i ds, L[i]? = some (some ds) → c.we.heap.size ≤ g.loc i ∨ g.loc i ∈ c.mv
  newT : ∀ i, τ[i]? = some true → g.ow i = true → c.we.heap.size ≤ g.tk i ∨ g.tk i ∈ c.mv
  newB : ∀ (b k : Nat), g.bx[b]? = some k → c.we.heap.size ≤ k ∨ k ∈ c.bx
  old : ∀ k, k ∈ c.bx ∨ k ∈ c.mv → c.base ≤ k
  mvS : MvS c g w
  boxL : ∀ i ds, L[i]? = some (some ds) → BoxAt (RepF c g (dom L) τ.length w) g.s w (g.loc i) ds
  boxB : ∀ (i : Nat) ds k, B[i]? = some ds → g.bx[i]? = some k → BoxAt (Rep g.bx g.s w) g.s w k ds
  tok : ∀ i, τ[i]? = some true → g.ow i = true → g.s (g.tk i) = g.en i ∧ ∃ (cs : Array Value) (t : TypeId), w.heap[g.tk i]? = some (.cells cs t (0, 0)) ∧ cs.size = g.bs i
  inj : ∀ x y, live g L τ x → live g L τ y → blk g x = blk g y → x = y

variable {c : Cx} {g : Gh} {L : List (Option (List D))} {τ : List Bool} {B : List (List D)} {w : World}

theorem bx_getD {bx : List Nat} {i k : Nat} (h : bx[i]? = some k) : bx.getD i 0 = k := by simp [List.getD_eq_getElem?_getD, h]

theorem bx_get {bx : List Nat} {i : Nat} (h : i < bx.length) : bx[i]? = some (bx.getD i 0) := by simp [List.getD_eq_getElem?_getD, h]

theorem FS.boxAt (h : FS c g L τ B w) {i k : Nat} (hk : g.bx[i]? = some k) : ∃ ds, B[i]? = some ds ∧ BoxAt (Rep g.bx g.s w) g.s w k ds := by
  have hlt : i < B.length := by rw [h.nB]; exact lt_of_get hk
  exact ⟨_, List.getElem?_eq_getElem hlt, h.boxB i _ k (List.getElem?_eq_getElem hlt) hk⟩

theorem FS.lt (h : FS c g L τ B w) {x : Nm} (hx : live g L τ x) : blk g x < w.heap.size := by
  cases x with
  | l i => obtain ⟨ds, hd⟩ := hx; obtain ⟨_, cs, t, fr, hh, _⟩ := h.boxL i ds hd; exact (Array.getElem?_eq_some_iff.1 hh).1
  | t i => obtain ⟨_, cs, t, hh, _⟩ := h.tok i hx.1 hx.2; exact (Array.getElem?_eq_some_iff.1 hh).1
  | b i =>
    obtain ⟨ds, _, _, cs, t, fr, hh, _⟩ := h.boxAt (bx_get hx)
    exact (Array.getElem?_eq_some_iff.1 hh).1

/-- All that may be written lies behind what was there when the whole began. -/
theorem FS.baseL (h : FS c g L τ B w) {i : Nat} {ds : List D} (hi : L[i]? = some (some ds)) : c.base ≤ g.loc i :=
  (h.newL i ds hi).elim (fun h1 => Nat.le_trans h.baseLe h1) (fun h1 => h.old _ (.inr h1))
theorem FS.baseT (h : FS c g L τ B w) {i : Nat} (hi : τ[i]? = some true) (ho : g.ow i = true) : c.base ≤ g.tk i :=
  (h.newT i hi ho).elim (fun h1 => Nat.le_trans h.baseLe h1) (fun h1 => h.old _ (.inr h1))
theorem FS.baseB (h : FS c g L τ B w) {b k : Nat} (hb : g.bx[b]? = some k) : c.base ≤ k :=
  (h.newB b k hb).elim (fun h1 => Nat.le_trans h.baseLe h1) (fun h1 => h.old _ (.inl h1))

theorem BoxAt.mono {R R' : D → Value → Prop} {s s' : Nat → Nat} {w w' : World} {k : Nat} {ds : List D} (h : BoxAt R s w k ds) (hr : ∀ d v, R d v → R' d v) (hs : s' k = s k)
    (hh : w'.heap[k]? = w.heap[k]?) : BoxAt R' s' w' k ds := by
  obtain ⟨h0, cs, t, fr, h1, h2, h3⟩ := h
  refine ⟨hs.trans h0, cs, t, fr, hh.trans h1, h2, fun j d hj => ?_⟩
  obtain ⟨v, hv, hrv⟩ := h3 j d hj
  exact ⟨v, hv, hr d v hrv⟩

/-- The world after a new block, and its number's stable cells. -/
def Gh.withS (g : Gh) (k n : Nat) : Gh := { g with s := fun q => if q = k then n else g.s q }

theorem ev_new (bx : List Nat) (s s' : Nat → Nat) (w w' : World) (hs : ∀ k, k < w.heap.size → s' k = s k) (hh : ∀ k, k < w.heap.size → w'.heap[k]? = w.heap[k]?) : Ev bx s w bx s' w' := by
  refine ⟨fun _ _ h => h, fun k hk => Nat.le_of_eq (hs k hk).symm, fun k o v _ hc => ?_⟩
  have hk : k < w.heap.size := World.block_lt_of_cell? w _ hc
  rw [World.cell?_of_block (w := w) (hh k hk)]; exact hc

/-- Nothing has changed but the tape. -/
theorem FS.same {w' : World} (h : FS c g L τ B w) (hh : w'.heap = w.heap) (ho : w'.os = w.os) (ht : w'.tape = w.tape) (hp : w'.output = w.output) :
    FS c g L τ B w' ∧ Gle c g (dom L) τ.length w g (dom L) τ.length w' := by
  have hg : Gle c g (dom L) τ.length w g (dom L) τ.length w' :=
    ⟨ev_new _ _ _ _ _ (fun _ _ => rfl) (fun _ _ => by rw [hh]), fun _ h => h, Nat.le_refl _, fun _ _ => rfl, fun _ _ => rfl, fun _ _ => rfl, fun _ _ => rfl, fun _ _ => rfl, by rw [hh]; exact Nat.le_refl _⟩
  refine ⟨⟨⟨ho.trans h.below.os, ht.trans h.below.tape, hp.trans h.below.output, by rw [hh]; exact h.below.size, fun k hk => by rw [hh]; exact h.below.block k hk⟩,
    by rw [hh]; exact h.entry, h.baseLe, h.nB, h.pre, fun k hk => h.zero k (by rw [hh] at hk; exact hk), fun k hk hb hm => by rw [hh]; exact h.frame k hk hb hm, ho.trans h.os, ht.trans h.tape, hp.trans h.output,
    h.newL, h.newT, h.newB, h.old, h.mvS.gle hg, fun i ds hi => (h.boxL i ds hi).mono (fun _ _ hr => hr.mono hg) rfl (by rw [hh]), fun i ds k hi hk => (h.boxB i ds k hi hk).mono (fun _ _ hr => hr.mono hg.ev) rfl (by rw [hh]),
    fun i hi hw => ?_, h.inj⟩, hg⟩
  obtain ⟨h1, cs, t, h2, h3⟩ := h.tok i hi hw
  exact ⟨h1, cs, t, by rw [hh]; exact h2, h3⟩

/-- A new block, of which so many cells are stable from now on. -/
theorem FS.alloc_stable (h : FS c g L τ B w) (cs : Array Value) (t : TypeId) (n : Nat) (fr : Nat × Nat := (0, 0)) :
    FS c (g.withS w.heap.size n) L τ B (w.alloc (.cells cs t fr)) ∧ Gle c g (dom L) τ.length w (g.withS w.heap.size n) (dom L) τ.length (w.alloc (.cells cs t fr)) := by
  have hold : ∀ k, k < w.heap.size → (w.alloc (.cells cs t fr)).heap[k]? = w.heap[k]? := fun k hk => Below.heap_alloc w _ k hk
  have hs : ∀ k, k < w.heap.size → (g.withS w.heap.size n).s k = g.s k := fun k hk => by simp [Gh.withS, Nat.ne_of_lt hk]
  have hg : Gle c g (dom L) τ.length w (g.withS w.heap.size n) (dom L) τ.length (w.alloc (.cells cs t fr)) :=
    ⟨ev_new _ _ _ _ _ hs hold, fun _ h => h, Nat.le_refl _, fun _ _ => rfl, fun _ _ => rfl, fun _ _ => rfl, fun _ _ => rfl, fun _ _ => rfl, by simp⟩
  refine ⟨⟨h.below.alloc (Nat.le_trans h.baseLe h.entry) _, by have := h.entry; simp; omega, h.baseLe, h.nB, h.pre, fun k hk => ?_, fun k hk hb hm => ?_, h.os, h.tape, h.output,
    h.newL, h.newT, h.newB, h.old, h.mvS.gle hg, fun i ds hi => ?_, fun i ds k hi hk => ?_, fun i hi hw => ?_, h.inj⟩, hg⟩
  · simp at hk
    have : k ≠ w.heap.size := by omega
    simp [Gh.withS, this]; exact h.zero k (by omega)
  · have hlt := Nat.lt_of_lt_of_le hk h.entry
    rw [hold k hlt, hs k hlt]; exact h.frame k hk hb hm
  · have hlt := h.lt (x := .l i) ⟨ds, hi⟩
    exact (h.boxL i ds hi).mono (fun _ _ hr => hr.mono hg) (hs _ hlt) (hold _ hlt)
  · have hlt := h.lt (x := .b i) (lt_of_get hk)
    rw [show blk g (.b i) = k from bx_getD hk] at hlt
    exact (h.boxB i ds k hi hk).mono (fun _ _ hr => hr.mono hg.ev) (hs _ hlt) (hold _ hlt)
  · have hlt := h.lt (x := .t i) ⟨hi, hw⟩
    obtain ⟨h1, cs', t', h2, h3⟩ := h.tok i hi hw
    exact ⟨(hs _ hlt).trans h1, cs', t', (hold _ hlt).trans h2, h3⟩

/-- A box more, by this number. -/
def ins (L : List (Option (List D))) (k : Nat) (ds : List D) : List (Option (List D)) := (L ++ List.replicate (k + 1 - L.length) (.none : Option (List D))).set k (some ds)

theorem ins_len (L : List (Option (List D))) (ds : List D) : ins L L.length ds = L ++ [some ds] := by
  unfold ins
  have : L.length + 1 - L.length = 1 := by omega
  rw [this]
  apply List.ext_getElem?
  intro i
  rw [List.getElem?_set]
  by_cases h : L.length = i
  · subst h; simp
  · rw [if_neg h]
    rcases Nat.lt_or_ge i L.length with hi | hi
    · rw [List.getElem?_append_left hi, List.getElem?_append_left hi]
    · rw [List.getElem?_append_right hi, List.getElem?_append_right hi]
      have : 1 ≤ i - L.length := by omega
      rw [List.getElem?_eq_none (by simpa using this), List.getElem?_eq_none (by simpa using this)]

theorem ins_get {L : List (Option (List D))} {k i : Nat} {ds es : List D} : (ins L k ds)[i]? = some (some es) ↔ (i = k ∧ es = ds) ∨ (i ≠ k ∧ L[i]? = some (some es)) := by
  unfold ins
  rw [List.getElem?_set]
  by_cases h : k = i
  · subst h
    have : k < (L ++ List.replicate (k + 1 - L.length) (.none : Option (List D))).length := by simp; omega
    rw [if_pos rfl, if_pos this]
    constructor
    · intro e; injection e with e; injection e with e; exact .inl ⟨rfl, e.symm⟩
    · rintro (⟨_, rfl⟩ | ⟨h, _⟩)
      · rfl
      · exact absurd rfl h
  · rw [if_neg h]
    have hne : i ≠ k := fun e => h e.symm
    rcases Nat.lt_or_ge i L.length with hi | hi
    · rw [List.getElem?_append_left hi]
      simp [hne]
    · rw [List.getElem?_append_right hi, List.getElem?_eq_none hi]
      simp only [hne, false_and, ne_eq, not_false_eq_true, true_and, false_or]
      constructor
      · intro e
        rw [List.getElem?_replicate] at e
        split at e <;> simp at e
      · intro e; cases e

theorem dom_ins {L : List (Option (List D))} {k i : Nat} {ds : List D} : dom (ins L k ds) i ↔ i = k ∨ dom L i := by
  constructor
  · rintro ⟨es, h⟩
    rcases ins_get.1 h with ⟨h, _⟩ | ⟨_, h⟩
    · exact .inl h
    · exact .inr ⟨es, h⟩
  · intro h
    by_cases hk : i = k
    · exact ⟨ds, ins_get.2 (.inl ⟨hk, rfl⟩)⟩
    · obtain ⟨es, hs⟩ := h.resolve_left hk
      exact ⟨es, ins_get.2 (.inr ⟨hk, hs⟩)⟩

theorem dom_new (L : List (Option (List D))) (ds : List D) : dom (L ++ [some ds]) L.length := by
  rw [← ins_len]; exact dom_ins.2 (.inl rfl)

theorem dom_lt {L : List (Option (List D))} {i : Nat} (h : dom L i) : i < L.length := by
  obtain ⟨_, h⟩ := h; exact (List.getElem?_eq_some_iff.1 h).1

theorem live_ins {k : Nat} {ds : List D} {x : Nm} (h : live g (ins L k ds) τ x) : live g L τ x ∨ x = .l k := by
  cases x with
  | l i =>
    obtain ⟨es, hd⟩ := h
    rcases ins_get.1 hd with ⟨h, _⟩ | ⟨_, h⟩
    · exact .inr (by rw [h])
    · exact .inl ⟨es, h⟩
  | t i => exact .inl h
  | b i => exact .inl h

theorem tok_snoc {i : Nat} {b : Bool} (h : (τ ++ [b])[i]? = some true) : τ[i]? = some true ∨ i = τ.length := by
  rcases Nat.lt_trichotomy i τ.length with hi | hi | hi
  · rw [List.getElem?_append_left hi] at h; exact .inl h
  · exact .inr hi
  · rw [List.getElem?_eq_none (by simp; omega)] at h; cases h

/-- A new block that is a box of the frame's own. -/
def Gh.newL (g : Gh) (i k : Nat) : Gh := { g with loc := fun q => if q = i then k else g.loc q }

theorem FS.alloc_at (h : FS c g L τ B w) (k : Nat) (hk : ¬ dom L k) (cs : Array Value) (t : TypeId) (fr : Nat × Nat) (ds : List D) (hfr : nofr fr cs.size)
    (hr : ∀ (j : Nat) (d : D), ds[j]? = some d → ∃ v : Value, cs[j]? = some v ∧ RepF c g (dom L) τ.length w d v) :
    FS c (g.newL k w.heap.size) (ins L k ds) τ B (w.alloc (.cells cs t fr)) ∧
      Gle c g (dom L) τ.length w (g.newL k w.heap.size) (dom (ins L k ds)) τ.length (w.alloc (.cells cs t fr)) := by
  have hold : ∀ q, q < w.heap.size → (w.alloc (.cells cs t fr)).heap[q]? = w.heap[q]? := fun q hq => Below.heap_alloc w _ q hq
  have hloc : ∀ i, dom L i → (g.newL k w.heap.size).loc i = g.loc i := fun i hi => by
    have : i ≠ k := fun e => hk (e ▸ hi)
    simp [Gh.newL, this]
  have hg : Gle c g (dom L) τ.length w (g.newL k w.heap.size) (dom (ins L k ds)) τ.length (w.alloc (.cells cs t fr)) :=
    ⟨ev_new _ _ _ _ _ (fun _ _ => rfl) hold, fun i hi => dom_ins.2 (.inr hi), Nat.le_refl _, hloc, fun _ _ => rfl, fun _ _ => rfl, fun _ _ => rfl, fun _ _ => rfl, by simp⟩
  have hnew : (w.alloc (.cells cs t fr)).heap[w.heap.size]? = some (.cells cs t fr) := heap_alloc_new w _
  have hblk : ∀ x, live g L τ x → blk (g.newL k w.heap.size) x = blk g x := fun x hx => by
    cases x with
    | l i => exact hloc i hx
    | t i => rfl
    | b i => rfl
  have hbn : blk (g.newL k w.heap.size) (.l k) = w.heap.size := by simp [blk, Gh.newL]
  have hlive : ∀ x, live (g.newL k w.heap.size) (ins L k ds) τ x → live g L τ x ∨ x = .l k := fun x hx => live_ins (g := g) (by cases x <;> exact hx)
  refine ⟨⟨h.below.alloc (Nat.le_trans h.baseLe h.entry) _, by have := h.entry; simp; omega, h.baseLe, h.nB, h.pre, fun q hq => h.zero q (by simp at hq; omega), fun q hq hb hm => ?_, h.os, h.tape, h.output,
    fun i es hi => ?_, h.newT, h.newB, h.old, h.mvS.gle hg, fun i es hi => ?_, fun i es q hi hq => ?_, fun i hi hw => ?_, fun x y hx hy he => ?_⟩, hg⟩
  · have hlt := Nat.lt_of_lt_of_le hq h.entry
    rw [hold q hlt]; exact h.frame q hq hb hm
  · rcases ins_get.1 hi with ⟨rfl, _⟩ | ⟨_, hi'⟩
    · refine .inl ?_
      show _ ≤ blk _ (.l i)
      rw [hbn]; exact h.entry
    · rw [hloc i ⟨es, hi'⟩]; exact h.newL i es hi'
  · rcases ins_get.1 hi with ⟨rfl, rfl⟩ | ⟨_, hi'⟩
    · show BoxAt _ _ _ (blk (g.newL i w.heap.size) (.l i)) _
      rw [hbn]
      refine ⟨h.zero _ (Nat.le_refl _), cs, t, fr, hnew, hfr, fun j d hj => ?_⟩
      obtain ⟨v, hv, hrv⟩ := hr j d hj
      exact ⟨v, hv, hrv.mono hg⟩
    · have hlt := h.lt (x := .l i) ⟨es, hi'⟩
      have hb := h.boxL i es hi'
      rw [hloc i ⟨es, hi'⟩]
      exact hb.mono (fun _ _ hr => hr.mono hg) rfl (hold _ hlt)
  · have hlt := h.lt (x := .b i) (lt_of_get hq)
    rw [show blk g (.b i) = q from bx_getD hq] at hlt
    exact (h.boxB i es q hi hq).mono (fun _ _ hr => hr.mono hg.ev) rfl (hold _ hlt)
  · have hlt := h.lt (x := .t i) ⟨hi, hw⟩
    obtain ⟨h1, cs', t', h2, h3⟩ := h.tok i hi hw
    exact ⟨h1, cs', t', (hold _ hlt).trans h2, h3⟩
  · rcases hlive x hx with hx | rfl <;> rcases hlive y hy with hy | rfl
    · rw [hblk x hx, hblk y hy] at he; exact h.inj x y hx hy he
    · rw [hblk x hx, hbn] at he; exact absurd he (Nat.ne_of_lt (h.lt hx))
    · rw [hblk y hy, hbn] at he; exact absurd he.symm (Nat.ne_of_lt (h.lt hy))
    · rfl

theorem FS.alloc_box (h : FS c g L τ B w) (cs : Array Value) (t : TypeId) (fr : Nat × Nat) (ds : List D) (hfr : nofr fr cs.size)
    (hr : ∀ (j : Nat) (d : D), ds[j]? = some d → ∃ v : Value, cs[j]? = some v ∧ RepF c g (dom L) τ.length w d v) :
    FS c (g.newL L.length w.heap.size) (L ++ [some ds]) τ B (w.alloc (.cells cs t fr)) ∧
      Gle c g (dom L) τ.length w (g.newL L.length w.heap.size) (dom (L ++ [some ds])) τ.length (w.alloc (.cells cs t fr)) := by
  have := h.alloc_at L.length (fun h => Nat.lt_irrefl _ (dom_lt h)) cs t fr ds hfr hr
  rwa [ins_len] at this

/-- A new block that is a shared box. -/
def Gh.newB (g : Gh) (k : Nat) : Gh := { g with bx := g.bx ++ [k] }

theorem snoc_get {l : List Nat} {x i k : Nat} (h : (l ++ [x])[i]? = some k) : l[i]? = some k ∨ (i = l.length ∧ k = x) := by
  rcases Nat.lt_trichotomy i l.length with hi | hi | hi
  · rw [List.getElem?_append_left hi] at h; exact .inl h
  · subst hi; simp at h; exact .inr ⟨rfl, h.symm⟩
  · rw [List.getElem?_eq_none (by simp; omega)] at h; cases h

theorem FS.alloc_shared (h : FS c g L τ B w) (cs : Array Value) (t : TypeId) (fr : Nat × Nat) (ds : List D) (hfr : nofr fr cs.size)
    (hr : ∀ (j : Nat) (d : D), ds[j]? = some d → ∃ v : Value, cs[j]? = some v ∧ Rep g.bx g.s w d v) :
    FS c (g.newB w.heap.size) L τ (B ++ [ds]) (w.alloc (.cells cs t fr)) ∧
      Gle c g (dom L) τ.length w (g.newB w.heap.size) (dom L) τ.length (w.alloc (.cells cs t fr)) := by
  have hold : ∀ q, q < w.heap.size → (w.alloc (.cells cs t fr)).heap[q]? = w.heap[q]? := fun q hq => Below.heap_alloc w _ q hq
  have hbx : ∀ b k : Nat, g.bx[b]? = some k → (g.newB w.heap.size).bx[b]? = some k := fun b k hb => by
    simp only [Gh.newB]; rw [List.getElem?_append_left (lt_of_get hb)]; exact hb
  have hev : Ev g.bx g.s w (g.newB w.heap.size).bx g.s (w.alloc (.cells cs t fr)) := by
    obtain ⟨_, e2, e3⟩ := ev_new g.bx g.s g.s w (w.alloc (.cells cs t fr)) (fun _ _ => rfl) hold
    exact ⟨hbx, e2, e3⟩
  have hg : Gle c g (dom L) τ.length w (g.newB w.heap.size) (dom L) τ.length (w.alloc (.cells cs t fr)) :=
    ⟨hev, fun i hi => hi, Nat.le_refl _, fun _ _ => rfl, fun _ _ => rfl, fun _ _ => rfl, fun _ _ => rfl, fun _ _ => rfl, by simp⟩
  have hnew : (w.alloc (.cells cs t fr)).heap[w.heap.size]? = some (.cells cs t fr) := heap_alloc_new w _
  have hlive : ∀ x, live (g.newB w.heap.size) L τ x → live g L τ x ∧ blk (g.newB w.heap.size) x = blk g x ∨ x = .b g.bx.length := fun x hx => by
    cases x with
    | l i => exact .inl ⟨hx, rfl⟩
    | t i => exact .inl ⟨hx, rfl⟩
    | b i =>
      have hx : i < (g.bx ++ [w.heap.size]).length := hx
      rw [List.length_append, List.length_singleton] at hx
      rcases Nat.lt_or_ge i g.bx.length with hi | hi
      · refine .inl ⟨hi, ?_⟩
        show (g.bx ++ [w.heap.size]).getD i 0 = g.bx.getD i 0
        simp [List.getD_eq_getElem?_getD, List.getElem?_append_left hi]
      · exact .inr (by congr 1; omega)
  have hbn : blk (g.newB w.heap.size) (.b g.bx.length) = w.heap.size := by
    show (g.bx ++ [w.heap.size]).getD g.bx.length 0 = _
    simp [List.getD_eq_getElem?_getD]
  refine ⟨⟨h.below.alloc (Nat.le_trans h.baseLe h.entry) _, by have := h.entry; simp; omega, h.baseLe, by simp [Gh.newB, h.nB], fun b k hb => hbx b k (h.pre b k hb), fun q hq => h.zero q (by simp at hq; omega), fun q hq hb hm => ?_, h.os, h.tape, h.output,
    h.newL, h.newT, fun b k hb => ?_, h.old, h.mvS.gle hg, fun i es hi => ?_, fun i es q hi hq => ?_, fun i hi hw => ?_, fun x y hx hy he => ?_⟩, hg⟩
  · have hlt := Nat.lt_of_lt_of_le hq h.entry
    rw [hold q hlt]; exact h.frame q hq hb hm
  · rcases snoc_get hb with hb | ⟨_, rfl⟩
    · exact h.newB b k hb
    · exact .inl h.entry
  · have hlt := h.lt (x := .l i) ⟨es, hi⟩
    exact (h.boxL i es hi).mono (fun _ _ hr => hr.mono hg) rfl (hold _ hlt)
  · rcases snoc_get hq with hq | ⟨rfl, rfl⟩
    · have hlt := h.lt (x := .b i) (lt_of_get hq)
      rw [show blk g (.b i) = q from bx_getD hq] at hlt
      rw [List.getElem?_append_left (by rw [h.nB]; exact lt_of_get hq)] at hi
      exact (h.boxB i es q hi hq).mono (fun _ _ hr => hr.mono hg.ev) rfl (hold _ hlt)
    · rw [← h.nB] at hi
      simp at hi
      subst hi
      refine ⟨h.zero _ (Nat.le_refl _), cs, t, fr, hnew, hfr, fun j d hj => ?_⟩
      obtain ⟨v, hv, hrv⟩ := hr j d hj
      exact ⟨v, hv, hrv.mono hg.ev⟩
  · have hlt := h.lt (x := .t i) ⟨hi, hw⟩
    obtain ⟨h1, cs', t', h2, h3⟩ := h.tok i hi hw
    exact ⟨h1, cs', t', (hold _ hlt).trans h2, h3⟩
  · rcases hlive x hx with ⟨hx, ex⟩ | rfl <;> rcases hlive y hy with ⟨hy, ey⟩ | rfl
    · rw [ex, ey] at he; exact h.inj x y hx hy he
    · rw [ex, hbn] at he; exact absurd he (Nat.ne_of_lt (h.lt hx))
    · rw [ey, hbn] at he; exact absurd he.symm (Nat.ne_of_lt (h.lt hy))
    · rfl

/-- A new block that is a row of the frame's own, to which it may append; or (o: false) a name for no row. -/
def Gh.newT (g : Gh) (i k e b : Nat) (o : Bool := true) : Gh :=
  { g with tk := fun q => if q = i then k else g.tk q, en := fun q => if q = i then e else g.en q, bs := fun q => if q = i then b else g.bs q, ow := fun q => if q = i then o else g.ow q }

/-- A name for no row. -/
theorem FS.name (h : FS c g L τ B w) : FS c (g.newT τ.length 0 0 0 false) L (τ ++ [true]) B w ∧ Gle c g (dom L) τ.length w (g.newT τ.length 0 0 0 false) (dom L) (τ ++ [true]).length w := by
  have htk : ∀ i, i < τ.length → (g.newT τ.length 0 0 0 false).tk i = g.tk i := fun i hi => by simp [Gh.newT, Nat.ne_of_lt hi]
  have how : ∀ i, i < τ.length → (g.newT τ.length 0 0 0 false).ow i = g.ow i := fun i hi => by simp [Gh.newT, Nat.ne_of_lt hi]
  have hg : Gle c g (dom L) τ.length w (g.newT τ.length 0 0 0 false) (dom L) (τ ++ [true]).length w :=
    ⟨Ev.refl _ _ _, fun _ h => h, by simp, fun _ _ => rfl, htk, fun i hi => by simp [Gh.newT, Nat.ne_of_lt hi], fun i hi => by simp [Gh.newT, Nat.ne_of_lt hi], how, Nat.le_refl _⟩
  have hno : (g.newT τ.length 0 0 0 false).ow τ.length = false := by simp [Gh.newT]
  have htok : ∀ i, (τ ++ [true])[i]? = some true → (g.newT τ.length 0 0 0 false).ow i = true → τ[i]? = some true ∧ g.ow i = true := fun i hi hw => by
    rcases tok_snoc hi with hi | rfl
    · exact ⟨hi, by rw [← how i (lt_of_get hi)]; exact hw⟩
    · rw [hno] at hw; cases hw
  have hlive : ∀ x, live (g.newT τ.length 0 0 0 false) L (τ ++ [true]) x → live g L τ x ∧ blk (g.newT τ.length 0 0 0 false) x = blk g x := fun x hx => by
    cases x with
    | l i => exact ⟨hx, rfl⟩
    | t i => have := htok i hx.1 hx.2; exact ⟨this, htk i (lt_of_get this.1)⟩
    | b i => exact ⟨hx, rfl⟩
  refine ⟨⟨h.below, h.entry, h.baseLe, h.nB, h.pre, h.zero, h.frame, h.os, h.tape, h.output, h.newL, fun i hi hw => ?_, h.newB, h.old, h.mvS.gle hg, fun i ds hi => ?_, h.boxB, fun i hi hw => ?_, fun x y hx hy he => ?_⟩, hg⟩
  · obtain ⟨a1, a2⟩ := htok i hi hw
    rw [htk i (lt_of_get a1)]; exact h.newT i a1 a2
  · exact (h.boxL i ds hi).mono (fun _ _ hr => hr.mono hg) rfl rfl
  · obtain ⟨a1, a2⟩ := htok i hi hw
    obtain ⟨b1, cs, t, b2, b3⟩ := h.tok i a1 a2
    have hlt := lt_of_get a1
    refine ⟨?_, cs, t, ?_, ?_⟩
    · rw [htk i hlt]; simp only [Gh.newT, Nat.ne_of_lt hlt, if_false]; exact b1
    · rw [htk i hlt]; exact b2
    · simp only [Gh.newT, Nat.ne_of_lt hlt, if_false]; exact b3
  · obtain ⟨a1, a2⟩ := hlive x hx
    obtain ⟨b1, b2⟩ := hlive y hy
    rw [a2, b2] at he; exact h.inj x y a1 b1 he

/-- A row that is this frame's own from now on. -/
theorem FS.adopt (h : FS c g L τ B w) (k n b : Nat) (hk : c.we.heap.size ≤ k ∨ k ∈ c.mv) (hs : g.s k = n) (hh : ∃ (cs : Array Value) (t : TypeId), w.heap[k]? = some (.cells cs t (0, 0)) ∧ cs.size = b)
    (hne : ∀ x, live g L τ x → blk g x ≠ k) :
    FS c (g.newT τ.length k n b) L (τ ++ [true]) B w ∧ Gle c g (dom L) τ.length w (g.newT τ.length k n b) (dom L) (τ ++ [true]).length w := by
  have htk : ∀ i, i < τ.length → (g.newT τ.length k n b).tk i = g.tk i := fun i hi => by simp [Gh.newT, Nat.ne_of_lt hi]
  have how : ∀ i, i < τ.length → (g.newT τ.length k n b).ow i = g.ow i := fun i hi => by simp [Gh.newT, Nat.ne_of_lt hi]
  have hg : Gle c g (dom L) τ.length w (g.newT τ.length k n b) (dom L) (τ ++ [true]).length w :=
    ⟨Ev.refl _ _ _, fun _ h => h, by simp, fun _ _ => rfl, htk, fun i hi => by simp [Gh.newT, Nat.ne_of_lt hi], fun i hi => by simp [Gh.newT, Nat.ne_of_lt hi], how, Nat.le_refl _⟩
  have hlive : ∀ x, live (g.newT τ.length k n b) L (τ ++ [true]) x → live g L τ x ∧ blk (g.newT τ.length k n b) x = blk g x ∨ x = .t τ.length := fun x hx => by
    cases x with
    | l i => exact .inl ⟨hx, rfl⟩
    | t i =>
      rcases tok_snoc hx.1 with hi | rfl
      · exact .inl ⟨⟨hi, by rw [← how i (lt_of_get hi)]; exact hx.2⟩, htk i (lt_of_get hi)⟩
      · exact .inr rfl
    | b i => exact .inl ⟨hx, rfl⟩
  have hbn : blk (g.newT τ.length k n b) (.t τ.length) = k := by simp [blk, Gh.newT]
  refine ⟨⟨h.below, h.entry, h.baseLe, h.nB, h.pre, h.zero, h.frame, h.os, h.tape, h.output, h.newL, fun i hi hw => ?_, h.newB, h.old, h.mvS.gle hg, fun i ds hi => ?_, h.boxB, fun i hi hw => ?_, fun x y hx hy he => ?_⟩, hg⟩
  · rcases tok_snoc hi with hi' | rfl
    · have hlt := lt_of_get hi'
      rw [how i hlt] at hw
      rw [htk i hlt]; exact h.newT i hi' hw
    · show _ ≤ blk _ (.t τ.length) ∨ blk _ (.t τ.length) ∈ _
      rw [hbn]; exact hk
  · exact (h.boxL i ds hi).mono (fun _ _ hr => hr.mono hg) rfl rfl
  · rcases tok_snoc hi with hi' | rfl
    · have hlt := lt_of_get hi'
      rw [how i hlt] at hw
      obtain ⟨a1, cs', t', a2, a3⟩ := h.tok i hi' hw
      refine ⟨?_, cs', t', ?_, ?_⟩
      · rw [htk i hlt]; simp only [Gh.newT, Nat.ne_of_lt hlt, if_false]; exact a1
      · rw [htk i hlt]; exact a2
      · simp only [Gh.newT, Nat.ne_of_lt hlt, if_false]; exact a3
    · obtain ⟨cs, t, h1, h2⟩ := hh
      refine ⟨?_, cs, t, ?_, ?_⟩
      · simp [Gh.newT]; exact hs
      · simpa [Gh.newT] using h1
      · simp [Gh.newT, h2]
  · rcases hlive x hx with ⟨hx, ex⟩ | rfl <;> rcases hlive y hy with ⟨hy, ey⟩ | rfl
    · rw [ex, ey] at he; exact h.inj x y hx hy he
    · rw [ex, hbn] at he; exact absurd he (hne x hx)
    · rw [ey, hbn] at he; exact absurd he.symm (hne y hy)
    · rfl

theorem FS.alloc_tok (h : FS c g L τ B w) (cs : Array Value) (t : TypeId) (n : Nat) :
    FS c ((g.withS w.heap.size n).newT τ.length w.heap.size n cs.size) L (τ ++ [true]) B (w.alloc (.cells cs t)) ∧
      Gle c g (dom L) τ.length w ((g.withS w.heap.size n).newT τ.length w.heap.size n cs.size) (dom L) (τ ++ [true]).length (w.alloc (.cells cs t)) := by
  obtain ⟨h1, hg1⟩ := h.alloc_stable cs t n
  obtain ⟨h2, hg2⟩ := h1.adopt w.heap.size n cs.size (.inl h.entry) (by simp [Gh.withS]) ⟨cs, t, heap_alloc_new w (.cells cs t), rfl⟩ (fun x hx => Nat.ne_of_lt (by
    have hx' : live g L τ x := by cases x <;> exact hx
    have : blk (g.withS w.heap.size n) x = blk g x := by cases x <;> rfl
    rw [this]; exact h.lt hx'))
  exact ⟨h2, hg1.trans hg2⟩

end Go.Proofs.YtbbbhalmlboapaaDoor.V

/-
What a store, and an append in place, leave of a frame's memory.
-/
namespace Go.Proofs.YtbbbhalmlboapaaDoor.V
set_option linter.unusedSimpArgs false
set_option linter.unusedVariables false
open Go Go.RowKit

variable {c : Cx} {g : Gh} {L : List (Option (List D))} {τ : List Bool} {B : List (List D)} {w : World}

theorem live_set_L {i : Nat} {ds es : List D} (hi : L[i]? = some (some ds)) {x : Nm} (h : live g (L.set i (some es)) τ x) : live g L τ x := by
  cases x with
  | l j =>
    obtain ⟨fs, hf⟩ := h
    by_cases hij : i = j
    · subst hij; exact ⟨ds, hi⟩
    · rw [List.getElem?_set_ne hij] at hf; exact ⟨fs, hf⟩
  | t j => exact h
  | b j => exact h

theorem dom_set {i : Nat} {ds : List D} (hi : L[i]? = some (some ds)) (es : List D) (k : Nat) (h : dom L k) : dom (L.set i (some es)) k := by
  by_cases hik : i = k
  · subst hik
    exact ⟨es, by rw [List.getElem?_set_self (List.getElem?_eq_some_iff.1 hi).1]⟩
  · obtain ⟨fs, hf⟩ := h
    exact ⟨fs, by rw [List.getElem?_set_ne hik]; exact hf⟩

theorem dom_set_inv {i k : Nat} {ds es : List D} (hi : L[i]? = some (some ds)) (h : dom (L.set i (some es)) k) : dom L k := by
  by_cases hik : i = k
  · subst hik; exact ⟨ds, hi⟩
  · obtain ⟨fs, hf⟩ := h
    rw [List.getElem?_set_ne hik] at hf
    exact ⟨fs, hf⟩

theorem ev_at (bx : List Nat) (s : Nat → Nat) (w w' : World) (k : Nat) (hs : s k = 0) (hh : ∀ q, q ≠ k → w'.heap[q]? = w.heap[q]?) : Ev bx s w bx s w' := by
  refine ⟨fun _ _ h => h, fun _ _ => Nat.le_refl _, fun q o v ho hc => ?_⟩
  have hq : q ≠ k := by rintro rfl; omega
  rw [World.cell?_of_block (w := w) (hh q hq)]; exact hc

theorem FS.set_box (h : FS c g L τ B w) {i : Nat} {ds : List D} (hi : L[i]? = some (some ds)) (w' : World) (hh : ∀ q, q ≠ g.loc i → w'.heap[q]? = w.heap[q]?) (hsz : w'.heap.size = w.heap.size)
    (ho : w'.os = w.os) (ht : w'.tape = w.tape) (hp : w'.output = w.output) (es : List D)
    (hb : ∃ (cs : Array Value) (t : TypeId) (fr : Nat × Nat), w'.heap[g.loc i]? = some (.cells cs t fr) ∧ nofr fr cs.size ∧ ∀ (j : Nat) (d : D), es[j]? = some d → ∃ v : Value, cs[j]? = some v ∧ RepF c g (dom L) τ.length w d v) :
    FS c g (L.set i (some es)) τ B w' ∧ Gle c g (dom L) τ.length w g (dom (L.set i (some es))) τ.length w' := by
  have hs0 : g.s (g.loc i) = 0 := (h.boxL i ds hi).1
  have hg : Gle c g (dom L) τ.length w g (dom (L.set i (some es))) τ.length w' :=
    ⟨ev_at _ _ _ _ _ hs0 hh, dom_set hi es, Nat.le_refl _, fun _ _ => rfl, fun _ _ => rfl, fun _ _ => rfl, fun _ _ => rfl, fun _ _ => rfl, by omega⟩
  have hne : ∀ x, live g L τ x → x ≠ .l i → blk g x ≠ g.loc i := fun x hx hxi he => hxi (h.inj x (.l i) hx ⟨ds, hi⟩ he)
  have hge := h.newL i ds hi
  have hbase := h.baseL hi
  refine ⟨⟨⟨ho.trans h.below.os, ht.trans h.below.tape, hp.trans h.below.output, by have := h.below.size; omega, fun k hk => by rw [hh k (by omega)]; exact h.below.block k hk⟩,
    by have := h.entry; omega, h.baseLe, h.nB, h.pre, fun k hk => h.zero k (by omega), fun k hk hb hm => by rw [hh k (fun e => by subst e; rcases hge with h1 | h1; omega; exact hm h1)]; exact h.frame k hk hb hm, ho.trans h.os, ht.trans h.tape, hp.trans h.output,
    fun j fs hj => ?_, h.newT, h.newB, h.old, h.mvS.gle hg, fun j fs hj => ?_, fun j fs k hj hk => ?_, fun j hj hw => ?_, fun x y hx hy he => h.inj x y (live_set_L hi hx) (live_set_L hi hy) he⟩, hg⟩
  · by_cases hij : i = j
    · subst hij; exact hge
    · rw [List.getElem?_set_ne hij] at hj; exact h.newL j fs hj
  · by_cases hij : i = j
    · subst hij
      have hlt := lt_of_get hi
      rw [List.getElem?_set_self hlt] at hj
      simp at hj; subst hj
      obtain ⟨cs, t, fr, h1, h2, h3⟩ := hb
      refine ⟨hs0, cs, t, fr, h1, h2, fun q d hq => ?_⟩
      obtain ⟨v, hv, hrv⟩ := h3 q d hq
      exact ⟨v, hv, hrv.mono hg⟩
    · rw [List.getElem?_set_ne hij] at hj
      exact (h.boxL j fs hj).mono (fun _ _ hr => hr.mono hg) rfl (hh _ (hne (.l j) ⟨fs, hj⟩ (by intro e; injection e with e; exact hij e.symm)))
  · have hn := hne (.b j) (lt_of_get hk) (by intro e; injection e)
    rw [show blk g (.b j) = k from bx_getD hk] at hn
    exact (h.boxB j fs k hj hk).mono (fun _ _ hr => hr.mono hg.ev) rfl (hh _ hn)
  · obtain ⟨h1, cs, t, h2, h3⟩ := h.tok j hj hw
    exact ⟨h1, cs, t, (hh _ (hne (.t j) ⟨hj, hw⟩ (by intro e; injection e))).trans h2, h3⟩

theorem FS.set_glob (h : FS c g L τ B w) {i k0 : Nat} {ds : List D} (hi : B[i]? = some ds) (hk0 : g.bx[i]? = some k0) (w' : World) (hh : ∀ q, q ≠ k0 → w'.heap[q]? = w.heap[q]?) (hsz : w'.heap.size = w.heap.size)
    (ho : w'.os = w.os) (ht : w'.tape = w.tape) (hp : w'.output = w.output) (es : List D)
    (hb : ∃ (cs : Array Value) (t : TypeId) (fr : Nat × Nat), w'.heap[k0]? = some (.cells cs t fr) ∧ nofr fr cs.size ∧ ∀ (j : Nat) (d : D), es[j]? = some d → ∃ v : Value, cs[j]? = some v ∧ Rep g.bx g.s w d v) :
    FS c g L τ (B.set i es) w' ∧ Gle c g (dom L) τ.length w g (dom L) τ.length w' := by
  have hs0 : g.s k0 = 0 := (h.boxB i ds k0 hi hk0).1
  have hlt := lt_of_get hi
  have hltx := lt_of_get hk0
  have ek : blk g (.b i) = k0 := bx_getD hk0
  have hg : Gle c g (dom L) τ.length w g (dom L) τ.length w' :=
    ⟨ev_at _ _ _ _ _ hs0 hh, fun _ h => h, Nat.le_refl _, fun _ _ => rfl, fun _ _ => rfl, fun _ _ => rfl, fun _ _ => rfl, fun _ _ => rfl, by omega⟩
  have hne : ∀ x, live g L τ x → x ≠ .b i → blk g x ≠ k0 := fun x hx hxi he => hxi (h.inj x (.b i) hx hltx (he.trans ek.symm))
  have hge := h.newB i k0 hk0
  have hbase := h.baseB hk0
  refine ⟨⟨⟨ho.trans h.below.os, ht.trans h.below.tape, hp.trans h.below.output, by have := h.below.size; omega, fun k hk => by rw [hh k (by omega)]; exact h.below.block k hk⟩,
    by have := h.entry; omega, h.baseLe, by simpa using h.nB, h.pre, fun k hk => h.zero k (by omega), fun k hk hbb hm => ?_, ho.trans h.os, ht.trans h.tape, hp.trans h.output,
    h.newL, h.newT, h.newB, h.old, h.mvS.gle hg, fun j fs hj => ?_, fun j fs k hj hk => ?_, fun j hj hw => ?_, h.inj⟩, hg⟩
  · rw [hh k (fun e => by subst e; rcases hge with h1 | h1; omega; exact hbb h1)]; exact h.frame k hk hbb hm
  · exact (h.boxL j fs hj).mono (fun _ _ hr => hr.mono hg) rfl (hh _ (hne (.l j) ⟨fs, hj⟩ (by intro e; injection e)))
  · by_cases hij : i = j
    · subst hij
      rw [hk0] at hk
      injection hk with hk; subst hk
      rw [List.getElem?_set_self hlt] at hj
      simp at hj; subst hj
      obtain ⟨cs, t, fr, h1, h2, h3⟩ := hb
      refine ⟨hs0, cs, t, fr, h1, h2, fun q d hq => ?_⟩
      obtain ⟨v, hv, hrv⟩ := h3 q d hq
      exact ⟨v, hv, hrv.mono hg.ev⟩
    · rw [List.getElem?_set_ne hij] at hj
      have hn := hne (.b j) (lt_of_get hk) (by intro e; injection e with e; exact hij e.symm)
      rw [show blk g (.b j) = k from bx_getD hk] at hn
      exact (h.boxB j fs k hj hk).mono (fun _ _ hr => hr.mono hg.ev) rfl (hh _ hn)
  · obtain ⟨h1, cs, t, h2, h3⟩ := h.tok j hj hw
    exact ⟨h1, cs, t, (hh _ (hne (.t j) ⟨hj, hw⟩ (by intro e; injection e))).trans h2, h3⟩

theorem live_shut {i : Nat} {x : Nm} (h : live g L (τ.set i false) x) : live g L τ x ∧ x ≠ .t i := by
  cases x with
  | t j =>
    simp only [live] at h ⊢
    by_cases hij : i = j
    · subst hij
      rw [List.getElem?_set] at h
      simp at h
    · rw [List.getElem?_set_ne hij] at h; exact ⟨h, by intro e; injection e with e; exact hij e.symm⟩
  | l j => exact ⟨h, by intro e; injection e⟩
  | b j => exact ⟨h, by intro e; injection e⟩

/-- Nobody appends to this row any more. -/
theorem FS.shut (h : FS c g L τ B w) (i : Nat) : FS c g L (τ.set i false) B w ∧ Gle c g (dom L) τ.length w g (dom L) (τ.set i false).length w := by
  have hg : Gle c g (dom L) τ.length w g (dom L) (τ.set i false).length w := by simpa using Gle.refl c g (dom L) τ.length w
  have hT : ∀ j, (τ.set i false)[j]? = some true → τ[j]? = some true := fun j hj => by
    by_cases hij : i = j
    · subst hij; rw [List.getElem?_set] at hj; simp at hj
    · rw [List.getElem?_set_ne hij] at hj; exact hj
  exact ⟨⟨h.below, h.entry, h.baseLe, h.nB, h.pre, h.zero, h.frame, h.os, h.tape, h.output, h.newL, fun j hj => h.newT j (hT j hj), h.newB, h.old, h.mvS.gle hg,
    fun j ds hj => (h.boxL j ds hj).mono (fun _ _ hr => hr.mono hg) rfl rfl, h.boxB, fun j hj => h.tok j (hT j hj), fun x y hx hy he => h.inj x y (live_shut hx).1 (live_shut hy).1 he⟩, hg⟩

/-- An append in place: row i's block is longer; row i is none any more. -/
theorem FS.grow0 (h : FS c g L τ B w) {i : Nat} (hi : τ[i]? = some true) (hw : g.ow i = true) (w' : World) (hh : ∀ q, q ≠ g.tk i → w'.heap[q]? = w.heap[q]?) (hsz : w'.heap.size = w.heap.size)
    (ho : w'.os = w.os) (ht : w'.tape = w.tape) (hp : w'.output = w.output) (n : Nat) (hn : g.en i ≤ n)
    (hb : ∃ (cs cs' : Array Value) (t t' : TypeId), w.heap[g.tk i]? = some (.cells cs t (0, 0)) ∧ w'.heap[g.tk i]? = some (.cells cs' t' (0, 0)) ∧ cs'.size = g.bs i ∧ ∀ (o : Nat) (v : Value), o < g.en i → cs[o]? = some v → cs'[o]? = some v) :
    FS c (g.withS (g.tk i) n) L (τ.set i false) B w' ∧ Gle c g (dom L) τ.length w (g.withS (g.tk i) n) (dom L) (τ.set i false).length w' ∧ ∀ x, live (g.withS (g.tk i) n) L (τ.set i false) x → blk (g.withS (g.tk i) n) x ≠ g.tk i := by
  obtain ⟨cs, cs', t, t', h1, h2, h3, h4⟩ := hb
  have hsi : g.s (g.tk i) = g.en i := (h.tok i hi hw).1
  have hne : ∀ x, live g L τ x → x ≠ .t i → blk g x ≠ g.tk i := fun x hx hxi he => hxi (h.inj x (.t i) hx ⟨hi, hw⟩ he)
  have hge := h.newT i hi hw
  have hbase := h.baseT hi hw
  have hlti : g.tk i < w.heap.size := h.lt (x := .t i) ⟨hi, hw⟩
  have hev : Ev g.bx g.s w g.bx (g.withS (g.tk i) n).s w' := by
    refine ⟨fun _ _ h => h, fun k hk => ?_, fun k o v hk hc => ?_⟩
    · by_cases e : k = g.tk i
      · subst e; simp [Gh.withS]; omega
      · simp [Gh.withS, e]
    · by_cases e : k = g.tk i
      · subst e
        have hcs : cs[o]? = some v := by simpa [World.cell?, h1] using hc
        have := h4 o v (by omega) hcs
        simp [World.cell?, h2, this]
      · rw [World.cell?_of_block (w := w) (hh k e)]; exact hc
  have hg : Gle c g (dom L) τ.length w (g.withS (g.tk i) n) (dom L) (τ.set i false).length w' :=
    ⟨hev, fun _ h => h, by simp, fun _ _ => rfl, fun _ _ => rfl, fun _ _ => rfl, fun _ _ => rfl, fun _ _ => rfl, by omega⟩
  have hlive : ∀ x, live (g.withS (g.tk i) n) L (τ.set i false) x → live g L τ x ∧ x ≠ .t i := fun x hx => live_shut (g := g) (by cases x <;> exact hx)
  have hblk : ∀ x, blk (g.withS (g.tk i) n) x = blk g x := fun x => by cases x <;> rfl
  have hs : ∀ k, k ≠ g.tk i → (g.withS (g.tk i) n).s k = g.s k := fun k hk => by simp [Gh.withS, hk]
  refine ⟨⟨⟨ho.trans h.below.os, ht.trans h.below.tape, hp.trans h.below.output, by have := h.below.size; omega, fun k hk => by rw [hh k (by omega)]; exact h.below.block k hk⟩,
    by have := h.entry; omega, h.baseLe, h.nB, h.pre, fun k hk => by rw [hs k (by omega)]; exact h.zero k (by omega), fun k hk hb hm => ?_,
    ho.trans h.os, ht.trans h.tape, hp.trans h.output,
    h.newL, fun j hj hw => ?_, h.newB, h.old, h.mvS.gle hg, fun j fs hj => ?_, fun j fs k hj hk => ?_, fun j hj hw => ?_, fun x y hx hy he => ?_⟩, hg, fun x hx => ?_⟩
  · have hq : k ≠ g.tk i := fun e => by subst e; rcases hge with h1 | h1; omega; exact hm h1
    rw [hh k hq, hs k hq]; exact h.frame k hk hb hm
  · obtain ⟨⟨a1, a2⟩, _⟩ := hlive (.t j) ⟨hj, hw⟩
    exact h.newT j a1 a2
  · have hn := hne (.l j) ⟨fs, hj⟩ (by intro e; injection e)
    exact (h.boxL j fs hj).mono (fun _ _ hr => hr.mono hg) (hs _ hn) (hh _ hn)
  · have hn := hne (.b j) (lt_of_get hk) (by intro e; injection e)
    rw [show blk g (.b j) = k from bx_getD hk] at hn
    exact (h.boxB j fs k hj hk).mono (fun _ _ hr => hr.mono hg.ev) (hs _ hn) (hh _ hn)
  · obtain ⟨⟨a1, a2⟩, a3⟩ := hlive (.t j) ⟨hj, hw⟩
    have hn : g.tk j ≠ g.tk i := hne (.t j) ⟨a1, a2⟩ a3
    obtain ⟨b1, ds, u, b2, b3⟩ := h.tok j a1 a2
    exact ⟨(hs (g.tk j) hn).trans b1, ds, u, (hh _ hn).trans b2, b3⟩
  · rw [hblk, hblk] at he
    exact h.inj x y (hlive x hx).1 (hlive y hy).1 he
  · rw [hblk]; exact hne x (hlive x hx).1 (hlive x hx).2

/-- An append in place: row i's block is row j's now (j: a new number), and longer. -/
theorem FS.grow (h : FS c g L τ B w) {i : Nat} (hi : τ[i]? = some true) (hw : g.ow i = true) (w' : World) (hh : ∀ q, q ≠ g.tk i → w'.heap[q]? = w.heap[q]?) (hsz : w'.heap.size = w.heap.size)
    (ho : w'.os = w.os) (ht : w'.tape = w.tape) (hp : w'.output = w.output) (n : Nat) (hn : g.en i ≤ n)
    (hb : ∃ (cs cs' : Array Value) (t t' : TypeId), w.heap[g.tk i]? = some (.cells cs t (0, 0)) ∧ w'.heap[g.tk i]? = some (.cells cs' t' (0, 0)) ∧ cs'.size = g.bs i ∧ ∀ (o : Nat) (v : Value), o < g.en i → cs[o]? = some v → cs'[o]? = some v) :
    FS c ((g.withS (g.tk i) n).newT τ.length (g.tk i) n (g.bs i)) L (τ.set i false ++ [true]) B w' ∧
      Gle c g (dom L) τ.length w ((g.withS (g.tk i) n).newT τ.length (g.tk i) n (g.bs i)) (dom L) (τ.set i false ++ [true]).length w' := by
  obtain ⟨q1, q2, q3⟩ := h.grow0 hi hw w' hh hsz ho ht hp n hn hb
  obtain ⟨cs, cs', t, t', h1, h2, h3, h4⟩ := hb
  have hlen : (τ.set i false).length = τ.length := by simp
  have := q1.adopt (g.tk i) n (g.bs i) (h.newT i hi hw) (by simp [Gh.withS]) ⟨cs', t', h2, h3⟩ q3
  rw [hlen] at this
  obtain ⟨p1, p2⟩ := this
  exact ⟨p1, Gle.trans (by rw [hlen] at q2; exact q2) p2⟩

/-! ### Stores, cell by cell -/
theorem setCell_heap (w : World) (k o : Nat) (v : Value) (cs : Array Value) (t : TypeId) (fr : Nat × Nat) (h : w.heap[k]? = some (.cells cs t fr)) :
    (w.setCell ⟨k, o, none⟩ v).heap[k]? = some (.cells (cs.setIfInBounds o v) t fr) := by
  simp [World.setCell, Array.getElem?_modify, h]

theorem setCell_other (w : World) (k o : Nat) (v : Value) (q : Nat) (hq : q ≠ k) : (w.setCell ⟨k, o, none⟩ v).heap[q]? = w.heap[q]? := Below.heap_setCell w _ v q hq

/-- Stores of single cells, one behind the other. -/
theorem run_storeCells_gen (P : Program) (k : Nat) (t : TypeId) (fr : Nat × Nat) (n : Nat) (hfr : nofr fr n) : ∀ (vs : List Value) (o : Nat) (i : Nat) (cur : Array Value) (w : World),
    w.heap[k]? = some (.cells cur t fr) → cur.size = n → o + i + vs.length ≤ n → (∀ v ∈ vs, v.oneCell' = true) →
    ∃ (w' : World) (cs' : Array Value), (storeCells ⟨k, o, none⟩ vs i).run P w = .ok () w' ∧ w'.heap[k]? = some (.cells cs' t fr) ∧ cs'.size = n ∧
      (∀ j : Nat, cs'[j]? = if o + i ≤ j ∧ j < o + i + vs.length then vs[j - (o + i)]? else cur[j]?) ∧
      (∀ q, q ≠ k → w'.heap[q]? = w.heap[q]?) ∧ w'.heap.size = w.heap.size ∧ w'.os = w.os ∧ w'.tape = w.tape ∧ w'.output = w.output
  | [], o, i, cur, w, hg, hc, _, _ => ⟨w, cur, rfl, hg, hc, fun j => by rw [if_neg (by simp <;> omega)], fun _ _ => rfl, rfl, rfl, rfl, rfl⟩
  | v :: rest, o, i, cur, w, hg, hc, hl, h1 => by
    simp at hl
    have hadd : (⟨k, o, none⟩ : Addr).add i = ⟨k, o + i, none⟩ := add_plain k o i
    have hcell : w.cell? ⟨k, o + i, none⟩ = some (cur[o + i]'(by omega)) := by
      simp [World.cell?, hg]
    have hfro : w.frozen? ⟨k, o + i, none⟩ = false := by
      simp only [World.frozen?, hg]
      exact hfr.2 (o + i) (by omega)
    have hst : (store ((⟨k, o, none⟩ : Addr).add i) v).run P w = .ok () (w.setCell ⟨k, o + i, none⟩ v) := by
      rw [hadd, run_store P w _ v _ (h1 v (by simp)), hcell]
      simp [hfro]
    have hg' := setCell_heap w k (o + i) v cur t fr hg
    obtain ⟨w', cs', a1, a2, a3, a4, a5, a6, a7, a8, a9⟩ := run_storeCells_gen P k t fr n hfr rest o (i + 1) (cur.setIfInBounds (o + i) v) (w.setCell ⟨k, o + i, none⟩ v) hg' (by simpa using hc) (by omega) (fun x hx => h1 x (by simp [hx]))
    refine ⟨w', cs', ?_, a2, a3, fun j => ?_, fun q hq => (a5 q hq).trans (setCell_other w k _ v q hq), by rw [a6]; simp, a7, a8, a9⟩
    · simp only [storeCells, Sem.run_bind, hst, Result.andThen_ok, a1]
    · rw [a4 j]
      simp only [List.length_cons]
      by_cases hj : j = o + i
      · subst hj
        rw [if_neg (by omega), if_pos (by omega)]
        simp [Array.getElem?_setIfInBounds]; omega
      · by_cases hin : o + (i + 1) ≤ j ∧ j < o + (i + 1) + rest.length
        · rw [if_pos hin, if_pos (by omega), show j - (o + i) = (j - (o + (i + 1))) + 1 by omega, List.getElem?_cons_succ]
        · rw [if_neg hin, if_neg (by omega), Array.getElem?_setIfInBounds_ne (by omega)]

end Go.Proofs.YtbbbhalmlboapaaDoor.V

/-
The tables of types; what a value must be, by what is told of it; the operations that touch no memory.
-/
namespace Go.Proofs.YtbbbhalmlboapaaDoor.V
set_option linter.unusedSimpArgs false
set_option linter.unusedVariables false
open Go Go.RowKit

/-! ### Types -/
def DescOk (P : Program) (t : TypeId) : TD → Prop
  | .bool => P.underlying t = some .bool
  | .int k => P.underlying t = some (.int k)
  | .str => P.underlying t = some .string
  | .ptr e => P.underlying t = some (.pointer e)
  | .slice e => P.underlying t = some (.slice e)
  | .array n e => P.underlying t = some (.array n e)
  | .struct fs => ∃ fields : Array Field, P.underlying t = some (.struct fields) ∧ fields.toList.map (fun f => (f.offset, f.type)) = fs ∧ ∀ f, f ∈ fields.toList → f.name ≠ "_"
  | .iface => ∃ ms, P.underlying t = some (.interface ms)
  | .func => ∃ a b v, P.underlying t = some (.func a b v)
  | .other => ∃ d, P.underlying t = some d ∧ (∀ fs, d ≠ .struct fs) ∧ ∀ n e, d ≠ .array n e

structure TabOk (P : Program) (T : Tab) : Prop where
  desc : ∀ t ti, T t = some ti → DescOk P t ti.d
  info : ∀ t ti, T t = some ti → ∃ (i : TypeInfo) (z : Value), P.info? t = some i ∧ i.size = ti.sz ∧ i.bytes = ti.bytes ∧ i.zero = some z ∧ ∀ bx s w, Rep bx s w ti.zero z
  cmp : ∀ t ti, T t = some ti → ti.cmp = true → P.eqGuardType P.depth t = false
  held : ∀ t ti, T t = some ti → ti.cmp = true → P.stoodInHeld t = false
  zlen : ∀ t ti, T t = some ti → ti.zero.cells.length = ti.sz
  zleaf : ∀ t ti, T t = some ti → ti.zero.cells.all D.leaf = true
  flds : ∀ t ti fs, T t = some ti → ti.d = .struct fs → ∀ f, f ∈ fs → ∃ i, P.info? f.2 = some i

theorem run_isAgg {P : Program} {T : Tab} (h : TabOk P T) {t : TypeId} {ti : TI} (ht : T t = some ti) (w : World) : (isAgg t).run P w = .ok ti.agg w := by
  have hd := h.desc t ti ht
  unfold isAgg TI.agg
  cases hti : ti.d <;> rw [hti] at hd <;> simp only [DescOk] at hd
  case struct fs => obtain ⟨fields, hu, _⟩ := hd; simp [run_underlying hu]
  case iface => obtain ⟨ms, hu⟩ := hd; simp [run_underlying hu]
  case func => obtain ⟨x, y, z, hu⟩ := hd; simp [run_underlying hu]
  case other =>
    obtain ⟨d, hu, h1, h2⟩ := hd
    cases d <;> simp_all [run_underlying hu]
  all_goals simp [run_underlying hd]

theorem run_sizeOf' {P : Program} {T : Tab} (h : TabOk P T) {t : TypeId} {ti : TI} (ht : T t = some ti) (w : World) : (sizeOf t).run P w = .ok ti.sz w := by
  obtain ⟨i, z, hi, hs, _⟩ := h.info t ti ht
  simp [sizeOf, typeInfo, hi, hs]

theorem run_zero' {P : Program} {T : Tab} (h : TabOk P T) {t : TypeId} {ti : TI} (ht : T t = some ti) : ∃ z, (∀ w, (zeroValue t).run P w = .ok z w) ∧ ∀ bx s w, Rep bx s w ti.zero z := by
  obtain ⟨i, z, hi, _, _, hz, hr⟩ := h.info t ti ht
  exact ⟨z, fun w => by simp [zeroValue, typeInfo, hi, hz], hr⟩

/-! ### What a value must be -/
variable {c : Cx} {g : Gh} {nL : Nat → Prop} {nT : Nat} {w : World}

theorem RepF.int_inv {k : IntKind} {n : Int} {v : Value} (h : RepF c g nL nT w (.int k n) v) : v = .int k n := by
  cases h with | clean _ _ h => cases h; rfl
theorem RepF.bool_inv {b : Bool} {v : Value} (h : RepF c g nL nT w (.bool b) v) : v = .bool b := by
  cases h with | clean _ _ h => cases h; rfl
theorem RepF.str_inv {l : List UInt8} {v : Value} (h : RepF c g nL nT w (.str l) v) : ∃ s, v = .string s ∧ s.data.toList = l := by
  cases h with | clean _ _ h => cases h; exact ⟨_, rfl, rfl⟩
theorem RepF.nilp_inv {v : Value} (h : RepF c g nL nT w .nilp v) : v = .pointer none := by
  cases h with | clean _ _ h => cases h; rfl
theorem RepF.nili_inv {v : Value} (h : RepF c g nL nT w .nili v) : v = .nilIface := by
  cases h with | clean _ _ h => cases h; rfl
theorem RepF.nilsl_inv {v : Value} (h : RepF c g nL nT w .nilsl v) : v = .slice none 0 0 := by
  cases h with | clean _ _ h => cases h; rfl
theorem RepF.lptr_inv {i off : Nat} {v : Value} (h : RepF c g nL nT w (.lptr i off) v) : v = .pointer (some ⟨g.loc i, off, none⟩) ∧ nL i := by
  cases h with
  | clean _ _ h => cases h
  | lptr _ _ hi => exact ⟨rfl, hi⟩
theorem RepF.lsl_inv {i off len sz : Nat} {v : Value} (h : RepF c g nL nT w (.lsl i off len sz) v) : ∃ cap, v = .slice (some ⟨g.loc i, off, none⟩) len cap ∧ nL i ∧ len ≤ cap := by
  cases h with
  | clean _ _ h => cases h
  | lsl _ _ _ _ cap hi hc => exact ⟨cap, rfl, hi, hc⟩
theorem RepF.bptr_inv {b off : Nat} {v : Value} (h : RepF c g nL nT w (.bptr b off) v) : ∃ k, g.bx[b]? = some k ∧ v = .pointer (some ⟨k, off, none⟩) := by
  cases h with | clean _ _ h => cases h with | bptr _ _ k hk => exact ⟨k, hk, rfl⟩
theorem RepF.fptr_inv {ds : List D} {v : Value} (h : RepF c g nL nT w (.fptr ds) v) : Rep g.bx g.s w (.fptr ds) v := by
  cases h with | clean _ _ h => exact h
theorem RepF.iface_inv {t : TypeId} {d : D} {v : Value} (h : RepF c g nL nT w (.iface t d) v) : ∃ u, v = .iface t u ∧ Rep g.bx g.s w d u := by
  cases h with | clean _ _ h => cases h with | iface _ _ u hu => exact ⟨u, rfl, hu⟩
theorem RepF.fn_inv {f : FuncId} {ds : List D} {v : Value} (h : RepF c g nL nT w (.fn f ds) v) : ∃ vs : Array Value, v = .func (.func f) #[] vs ∧ ds.length = vs.size ∧ ∀ (i : Nat) (d : D), ds[i]? = some d → Rep g.bx g.s w d (vs.getD i Go.undef) := by
  cases h with | clean _ _ h => cases h with | fn _ _ vs hl h => exact ⟨vs, rfl, hl, h⟩

theorem Rep.to_none {bx : List Nat} {s : Nat → Nat} {sz : Nat} {xs : List D} {p : Perm} {v : Value} (h : Rep bx s w (.vec sz xs p) v) : Rep bx s w (.vec sz xs .none) v := by
  cases h with
  | nilv _ _ hp => exact .nilv sz .none (.inl rfl)
  | vec _ _ _ a cap vs hp hcap hsz hc hr hs => exact .vec sz xs .none a cap vs (.inl rfl) hcap hsz hc hr hs

/-- A slice is nil, and has no elements; or it is not. -/
theorem Rep.vec_shape {bx : List Nat} {s : Nat → Nat} {sz : Nat} {xs : List D} {p : Perm} {v : Value} (h : Rep bx s w (.vec sz xs p) v) :
    (v = .slice none 0 0 ∧ xs = []) ∨ ∃ a cap, v = .slice (some a) xs.length cap ∧ xs.length ≤ cap ∧ (p = .exact → cap = xs.length) := by
  cases h with
  | nilv _ _ hp => exact .inl ⟨rfl, rfl⟩
  | vec _ _ _ a cap vs hp hcap hsz hc hr hs => exact .inr ⟨a, cap, rfl, hcap, fun e => by subst e; rcases hp with h | ⟨_, h⟩ | h; cases h; exact h; cases h⟩

theorem RepF.vec_inv {sz : Nat} {xs : List D} {p : Perm} {v : Value} (h : RepF c g nL nT w (.vec sz xs p) v) : Rep g.bx g.s w (.vec sz xs .none) v := by
  cases h with
  | clean _ _ h => exact h.to_none
  | own i _ _ cap hi h ho he hb => exact h
  | tight i _ _ hi h => exact h.to_none
  | fresh _ _ _ h => exact h
  | boxr _ _ _ h => exact h

theorem RepF.own_inv {sz i : Nat} {xs : List D} {v : Value} (h : RepF c g nL nT w (.vec sz xs (.own i)) v) :
    i < nT ∧ Rep g.bx g.s w (.vec sz xs .none) v ∧ (xs = [] ∧ Rep g.bx g.s w (.vec sz xs .exact) v ∨ g.ow i = true ∧ ∃ cap, v = .slice (some ⟨g.tk i, 0, none⟩) xs.length cap ∧ xs.length * sz = g.en i ∧ cap * sz = g.bs i) := by
  cases h with
  | clean _ _ h =>
    cases h with
    | nilv _ _ hp => rcases hp with hp | hp <;> cases hp
    | vec _ _ _ a cap vs hp => rcases hp with hp | ⟨hp, _⟩ | hp <;> cases hp
  | own i _ _ cap hi h ho he hb => exact ⟨hi, h, .inr ⟨ho, cap, rfl, he, hb⟩⟩
  | tight i _ _ hi h => exact ⟨hi, h.to_none, .inl ⟨rfl, h⟩⟩

theorem RepF.real_inv {sz : Nat} {xs : List D} {v : Value} (h : RepF c g nL nT w (.vec sz xs .real) v) : ∃ a cap, v = .slice (some a) xs.length cap := by
  cases h with
  | clean _ _ h =>
    cases h with
    | nilv _ _ hp => rcases hp with hp | hp <;> cases hp
    | vec _ _ _ a cap vs hp => exact ⟨a, cap, rfl⟩

theorem RepF.exact_inv {sz : Nat} {xs : List D} {v : Value} (h : RepF c g nL nT w (.vec sz xs .exact) v) : Rep g.bx g.s w (.vec sz xs .exact) v := by
  cases h with
  | clean _ _ h => exact h

theorem RepF.agg_inv {ds : List D} {v : Value} (h : RepF c g nL nT w (.agg ds) v) : ∃ vs, v = .agg vs ∧ ds.length = vs.size ∧ ∀ i d, ds[i]? = some d → RepF c g nL nT w d (vs.getD i Go.undef) := by
  cases h with
  | clean _ _ h => cases h with | agg _ vs hl h => exact ⟨vs, rfl, hl, fun i d hi => .clean _ _ (h i d hi)⟩
  | agg _ vs hl h => exact ⟨vs, rfl, hl, h⟩

theorem RepF.tuple_inv {ds : List D} {v : Value} (h : RepF c g nL nT w (.tuple ds) v) : ∃ vs, v = .tuple vs ∧ ds.length = vs.size ∧ ∀ i d, ds[i]? = some d → RepF c g nL nT w d (vs.getD i Go.undef) := by
  cases h with
  | clean _ _ h => cases h
  | tuple _ vs hl h => exact ⟨vs, rfl, hl, h⟩

/-- A value of one cell is one cell. -/
theorem RepF.leaf_cells {d : D} {v : Value} (hd : d.leaf = true) (h : RepF c g nL nT w d v) : v.cells = #[v] ∧ v.oneCell' = true := by
  cases h with
  | undef v => simp [D.leaf] at hd
  | clean _ _ h => cases h <;> first | (simp [D.leaf] at hd; done) | exact ⟨rfl, rfl⟩
  | lptr => exact ⟨rfl, rfl⟩
  | lsl => exact ⟨rfl, rfl⟩
  | own => exact ⟨rfl, rfl⟩
  | tight _ _ _ _ h => cases h <;> exact ⟨rfl, rfl⟩
  | fresh _ _ _ h => cases h <;> exact ⟨rfl, rfl⟩
  | boxr _ _ _ h => cases h <;> exact ⟨rfl, rfl⟩
  | agg => simp [D.leaf] at hd
  | tuple => simp [D.leaf] at hd

/-- A value that is told, and no tuple. -/
def D.solid : D → Prop
  | .undef | .tuple _ => False
  | _ => True

/-- The cells of a value that is told. -/
theorem RepF.cells_of {d : D} {v : Value} (hd : d.solid) (h : RepF c g nL nT w d v) :
    d.cells.length = v.cells.size ∧ ∀ i e, d.cells[i]? = some e → RepF c g nL nT w e (v.cells.getD i Go.undef) := by
  cases d with
  | agg ds => obtain ⟨vs, rfl, hl, hr⟩ := h.agg_inv; exact ⟨hl, hr⟩
  | undef => exact hd.elim
  | tuple ds => exact hd.elim
  | _ =>
    obtain ⟨h1, _⟩ := RepF.leaf_cells (d := _) rfl h
    rw [h1]
    refine ⟨rfl, fun i e hi => ?_⟩
    cases i with
    | zero => simp [D.cells] at hi; subst hi; exact h
    | succ i => simp [D.cells] at hi

theorem rep_ofV (v : Value) : RepF c g nL nT w (ofV v) v := by
  unfold ofV
  split
  · exact .clean _ _ (.bool _)
  · exact .clean _ _ (.int _ _)
  · exact .clean _ _ (.str _)
  · exact .clean _ _ .nilp
  · exact .clean _ _ .nilsl
  · exact .clean _ _ .nilfn
  · exact .clean _ _ .nili
  · exact .undef _

/-- The slots. -/
def EnvR (c : Cx) (g : Gh) (nL : Nat → Prop) (nT : Nat) (w : World) (ρ : Env) (a : Act) : Prop := ∀ t, RepF c g nL nT w (get ρ t) (a.tmps.getD t Go.undef)

theorem EnvR.eval {ρ : Env} {a : Act} (h : EnvR c g nL nT w ρ a) (x : Operand) : RepF c g nL nT w (eval ρ x) (a.eval x) := by
  cases x with
  | tmp t => exact h t
  | const v => exact rep_ofV v
  | func f => exact .clean _ _ (.fn f [] #[] rfl (fun i d hi => by simp at hi))
  | global _ => exact .undef _

theorem rep_nz {T : Tab} {t : TypeId} {d : D} {v : Value} (h : RepF c g nL nT w d v) : RepF c g nL nT w (nz T t d) v := by
  unfold nz
  split
  · have := h.nilsl_inv
    subst this
    repeat' split
    all_goals first | exact .undef _ | exact .clean _ _ (.nilv _ _ (.inr rfl))
  · exact h

theorem EnvR.evalT {T : Tab} {t : TypeId} {ρ : Env} {a : Act} (h : EnvR c g nL nT w ρ a) (x : Operand) : RepF c g nL nT w (evalT T t ρ x) (a.eval x) := by
  unfold V.evalT
  split
  · exact rep_nz (rep_ofV _)
  · exact h.eval x

theorem EnvR.mono {g' : Gh} {nL' : Nat → Prop} {nT' : Nat} {w' : World} {ρ : Env} {a : Act} (hg : Gle c g nL nT w g' nL' nT' w') (h : EnvR c g nL nT w ρ a) : EnvR c g' nL' nT' w' ρ a := fun t => (h t).mono hg

/-- What an operation must do. -/
def OpOk (c : Cx) (g : Gh) (st : St) (w : World) (a : Act) (o : Oper) (d : D) (st' : St) : Prop :=
  ∀ (K : Act → World → Prop) (Q : Exit → Act → World → Prop),
    (∀ v w' g', FS c g' st'.L st'.τ st'.B w' → Gle c g (dom st.L) st.τ.length w g' (dom st'.L) st'.τ.length w' → RepF c g' (dom st'.L) st'.τ.length w' d v → K (a.put o.dst v) w') →
    o.wp c.P a w K Q

theorem OpOk.value {st st' : St} {a : Act} {o : Oper} {d : D} {v : Value} {w' : World} {g' : Gh} (hr : (execOp a.eval o).run c.P w = .ok (.value v) w') (hf : FS c g' st'.L st'.τ st'.B w')
    (hg : Gle c g (dom st.L) st.τ.length w g' (dom st'.L) st'.τ.length w') (hd : RepF c g' (dom st'.L) st'.τ.length w' d v) : OpOk c g st w a o d st' := by
  intro K Q h
  unfold Oper.wp
  rw [hr]
  exact h v w' g' hf hg hd

theorem OpOk.skip {st st' : St} {a : Act} {o : Oper} {w' : World} {g' : Gh} (hr : (execOp a.eval o).run c.P w = .ok .skip w') (hf : FS c g' st'.L st'.τ st'.B w')
    (hg : Gle c g (dom st.L) st.τ.length w g' (dom st'.L) st'.τ.length w') : OpOk c g st w a o (.tuple []) st' := by
  intro K Q h
  unfold Oper.wp
  rw [hr]
  exact h Go.undef w' g' hf hg (.tuple [] #[] rfl (fun i d hi => by simp at hi))

/-- It touches nothing. -/
theorem OpOk.pure {st : St} {a : Act} {o : Oper} {d : D} {v : Value} (hr : (execOp a.eval o).run c.P w = .ok (.value v) w) (hf : FS c g st.L st.τ st.B w)
    (hd : RepF c g (dom st.L) st.τ.length w d v) : OpOk c g st w a o d st :=
  .value hr hf (Gle.refl _ _ _ _ _) hd

/-! ### Operations on numbers, texts, bools -/
theorem run_value (s : Sem Value) (P : Program) (w w' : World) (v : Value) (h : s.run P w = .ok v w') : (do pure (Next.value (← s)) : Sem Next).run P w = .ok (.value v) w' := by
  simp [h]

theorem bits_back (op : BinOp) (k : IntKind) (a b : Int) (w : World) (P : Program) (h : op = .and ∨ op = .or ∨ op = .xor ∨ op = .andNot) : (Op.intBits op k a b).run P w = .ok (.int k (bitsV op k a b)) w := by
  rcases h with rfl | rfl | rfl | rfl <;> rfl

end Go.Proofs.YtbbbhalmlboapaaDoor.V
