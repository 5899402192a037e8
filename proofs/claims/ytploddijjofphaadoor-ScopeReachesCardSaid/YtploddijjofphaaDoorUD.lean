/-
A call's own frame: what its slots hold, its own boxes and rows; what a step leaves as it was.
-/
import Derived.Test.YtploddijjofphaaDoorUC
namespace Go.Proofs.YtploddijjofphaaDoor.V
set_option linter.unusedSimpArgs false
set_option linter.unusedVariables false
open Go Go.RowKit

/-- What does not change while a call runs: the boxes that all shared when it began; the rows that it may append to since then; the world in which the call began, and what was stable there; the world in which the whole began. -/
structure Cx where
  P : Program
  bx : List Nat
  mv : List Nat
  base : Nat
  w0 : World
  we : World
  s0 : Nat → Nat

/-- Where boxes and rows lie: the frame's own boxes; its rows: whether there is one, where it lies, where it ends, how many cells it has; the shared boxes; how much of each block is stable. -/
structure Gh where
  loc : Nat → Nat
  tk : Nat → Nat
  en : Nat → Nat
  bs : Nat → Nat
  ow : Nat → Bool
  bx : List Nat
  s : Nat → Nat

/-- The boxes that there are. -/
def dom (L : List (Option (List D))) : Nat → Prop := fun i => ∃ ds, L[i]? = some (some ds)

inductive RepF (c : Cx) (g : Gh) (nL : Nat → Prop) (nT : Nat) (w : World) : D → Value → Prop
  | undef (v : Value) : RepF c g nL nT w .undef v
  | clean (d : D) (v : Value) (h : Rep g.bx g.s w d v) : RepF c g nL nT w d v
  | lptr (i off : Nat) (hi : nL i) : RepF c g nL nT w (.lptr i off) (.pointer (some ⟨g.loc i, off, none⟩))
  | lsl (i off len sz cap : Nat) (hi : nL i) (hc : len ≤ cap) : RepF c g nL nT w (.lsl i off len sz) (.slice (some ⟨g.loc i, off, none⟩) len cap)
  | own (i sz : Nat) (xs : List D) (cap : Nat) (hi : i < nT) (h : Rep g.bx g.s w (.vec sz xs .none) (.slice (some ⟨g.tk i, 0, none⟩) xs.length cap))
      (ho : g.ow i = true) (he : xs.length * sz = g.en i) (hb : cap * sz = g.bs i) : RepF c g nL nT w (.vec sz xs (.own i)) (.slice (some ⟨g.tk i, 0, none⟩) xs.length cap)
  | tight (i sz : Nat) (v : Value) (hi : i < nT) (h : Rep g.bx g.s w (.vec sz [] .exact) v) : RepF c g nL nT w (.vec sz [] (.own i)) v
  | fresh (sz : Nat) (xs : List D) (v : Value) (h : Rep g.bx g.s w (.vec sz xs .none) v) : RepF c g nL nT w (.vec sz xs .fresh) v
  | agg (ds : List D) (vs : Array Value) (hl : ds.length = vs.size) (h : ∀ i d, ds[i]? = some d → RepF c g nL nT w d (vs.getD i Go.undef)) : RepF c g nL nT w (.agg ds) (.agg vs)
  | tuple (ds : List D) (vs : Array Value) (hl : ds.length = vs.size) (h : ∀ i d, ds[i]? = some d → RepF c g nL nT w d (vs.getD i Go.undef)) : RepF c g nL nT w (.tuple ds) (.tuple vs)

/-- From one state to another one: what was told stays told. -/
structure Gle (c : Cx) (g : Gh) (nL : Nat → Prop) (nT : Nat) (w : World) (g' : Gh) (nL' : Nat → Prop) (nT' : Nat) (w' : World) : Prop where
  ev : Ev g.bx g.s w g'.bx g'.s w'
  leL : ∀ i, nL i → nL' i
  leT : nT ≤ nT'
  loc : ∀ i, nL i → g'.loc i = g.loc i
  tk : ∀ i, i < nT → g'.tk i = g.tk i
  en : ∀ i, i < nT → g'.en i = g.en i
  bs : ∀ i, i < nT → g'.bs i = g.bs i
  ow : ∀ i, i < nT → g'.ow i = g.ow i
  size : w.heap.size ≤ w'.heap.size

theorem Gle.refl (c : Cx) (g : Gh) (nL : Nat → Prop) (nT : Nat) (w : World) : Gle c g nL nT w g nL nT w :=
  ⟨Ev.refl _ _ _, fun _ h => h, Nat.le_refl _, fun _ _ => rfl, fun _ _ => rfl, fun _ _ => rfl, fun _ _ => rfl, fun _ _ => rfl, Nat.le_refl _⟩

theorem Gle.trans {c : Cx} {g g' g'' : Gh} {nL nL' nL'' : Nat → Prop} {nT nT' nT'' : Nat} {w w' w'' : World} (h : Gle c g nL nT w g' nL' nT' w') (h' : Gle c g' nL' nT' w' g'' nL'' nT'' w'') :
    Gle c g nL nT w g'' nL'' nT'' w'' :=
  ⟨Ev.trans h.size h.ev h'.ev, fun i hi => h'.leL i (h.leL i hi), Nat.le_trans h.leT h'.leT, fun i hi => (h'.loc i (h.leL i hi)).trans (h.loc i hi),
    fun i hi => (h'.tk i (Nat.lt_of_lt_of_le hi h.leT)).trans (h.tk i hi), fun i hi => (h'.en i (Nat.lt_of_lt_of_le hi h.leT)).trans (h.en i hi),
    fun i hi => (h'.bs i (Nat.lt_of_lt_of_le hi h.leT)).trans (h.bs i hi), fun i hi => (h'.ow i (Nat.lt_of_lt_of_le hi h.leT)).trans (h.ow i hi), Nat.le_trans h.size h'.size⟩

theorem RepF.mono {c : Cx} {g g' : Gh} {nL nL' : Nat → Prop} {nT nT' : Nat} {w w' : World} (hg : Gle c g nL nT w g' nL' nT' w') {d : D} {v : Value} (h : RepF c g nL nT w d v) : RepF c g' nL' nT' w' d v := by
  induction h with
  | undef v => exact .undef v
  | clean d v h => exact .clean d v (h.mono hg.ev)
  | lptr i off hi => rw [← hg.loc i hi]; exact .lptr i off (hg.leL i hi)
  | lsl i off len sz cap hi hc => rw [← hg.loc i hi]; exact .lsl i off len sz cap (hg.leL i hi) hc
  | own i sz xs cap hi h ho he hb =>
    have h2 := h.mono hg.ev
    rw [← hg.tk i hi] at h2 ⊢
    exact .own i sz xs cap (Nat.lt_of_lt_of_le hi hg.leT) h2 ((hg.ow i hi).trans ho) (he.trans (hg.en i hi).symm) (hb.trans (hg.bs i hi).symm)
  | tight i sz v hi h => exact .tight i sz v (Nat.lt_of_lt_of_le hi hg.leT) (h.mono hg.ev)
  | fresh sz xs v h => exact .fresh sz xs v (h.mono hg.ev)
  | agg ds vs hl h ih => exact .agg ds vs hl ih
  | tuple ds vs hl h ih => exact .tuple ds vs hl ih

/-! ### The names of blocks that may be written -/
inductive Nm where
  | l (i : Nat) | t (i : Nat) | b (i : Nat)
  deriving DecidableEq

def blk (g : Gh) : Nm → Nat
  | .l i => g.loc i
  | .t i => g.tk i
  | .b i => g.bx.getD i 0

def live (g : Gh) (L : List (Option (List D))) (τ : List Bool) : Nm → Prop
  | .l i => ∃ ds, L[i]? = some (some ds)
  | .t i => τ[i]? = some true ∧ g.ow i = true
  | .b i => i < g.bx.length

/-- None of the first n cells is frozen. -/
def nofr (fr : Nat × Nat) (n : Nat) : Prop := fr.1 ≤ fr.2 ∧ ∀ o, o < n → (decide (fr.1 ≤ o) && decide (o < fr.2)) = false

theorem nofr_zero (n : Nat) : nofr (0, 0) n := ⟨Nat.le_refl _, fun o _ => by simp⟩

/-- A block that holds these values, and may be written. -/
def BoxAt (R : D → Value → Prop) (s : Nat → Nat) (w : World) (k : Nat) (ds : List D) : Prop :=
  s k = 0 ∧ ∃ (cs : Array Value) (t : TypeId) (fr : Nat × Nat), w.heap[k]? = some (.cells cs t fr) ∧ nofr fr cs.size ∧ ∀ (j : Nat) (d : D), ds[j]? = some d → ∃ v : Value, cs[j]? = some v ∧ R d v

/-- Of the rows that were handed in: what was stable is. -/
def MvS (c : Cx) (g : Gh) (w : World) : Prop :=
  ∀ k, k ∈ c.mv → k < w.heap.size ∧ c.s0 k ≤ g.s k ∧ ∀ o v, o < c.s0 k → c.we.cell? ⟨k, o, none⟩ = some v → w.cell? ⟨k, o, none⟩ = some v

theorem MvS.step {c : Cx} {g g' : Gh} {w w' : World} (h : MvS c g w) (hev : Ev g.bx g.s w g'.bx g'.s w') (hsz : w.heap.size ≤ w'.heap.size) : MvS c g' w' := fun k hk => by
  obtain ⟨h1, h2, h3⟩ := h k hk
  exact ⟨Nat.lt_of_lt_of_le h1 hsz, Nat.le_trans h2 (hev.le k h1), fun o v ho hv => hev.cell k o v (Nat.lt_of_lt_of_le ho h2) (h3 o v ho hv)⟩

theorem MvS.gle {c c2 : Cx} {g g' : Gh} {nL nL' : Nat → Prop} {nT nT' : Nat} {w w' : World} (h : MvS c g w) (hg : Gle c2 g nL nT w g' nL' nT' w') : MvS c g' w' := h.step hg.ev hg.size

/-- The frame's own memory. -/
structure FS (c : Cx) (g : Gh) (L : List (Option (List D))) (τ : List Bool) (B : List (List D)) (w : World) : Prop where
  below : Below c.base c.w0 w
  entry : c.we.heap.size ≤ w.heap.size
  baseLe : c.base ≤ c.we.heap.size
  nB : B.length = g.bx.length
  pre : ∀ (b k : Nat), c.bx[b]? = some k → g.bx[b]? = some k
  zero : ∀ k, w.heap.size ≤ k → g.s k = 0
  frame : ∀ k, k < c.we.heap.size → k ∉ c.bx → k ∉ c.mv → w.heap[k]? = c.we.heap[k]? ∧ g.s k = c.s0 k
  os : w.os = c.we.os
  tape : w.tape = c.we.tape
  output : w.output = c.we.output
  newL : ∀ i ds, L[i]? = some (some ds) → c.we.heap.size ≤ g.loc i ∨ g.loc i ∈ c.mv
  newT : ∀ i, τ[i]? = some true → g.ow i = true → c.we.heap.size ≤ g.tk i ∨ g.tk i ∈ c.mv
  newB : ∀ (b k : Nat), g.bx[b]? = some k → c.we.heap.size ≤ k ∨ k ∈ c.bx
  old : ∀ k, k ∈ c.bx ∨ k ∈ c.mv → c.base ≤ k
  mvS : MvS c g w
  boxL : ∀ i ds, L[i]? = some (some ds) → BoxAt (RepF c g (dom L) τ.length w) g.s w (g.loc i) ds
  boxB : ∀ (i : Nat) ds k, B[i]? = some ds → g.bx[i]? = some k → BoxAt (Rep g.bx g.s w) g.s w k ds
  tok : ∀ i, τ[i]? = some true → g.ow i = true → g.s (g.tk i) = g.en i ∧ ∃ (cs : Array Value) (t : TypeId), w.heap[g.tk i]? = some (.cells cs t (0, 0)) ∧ cs.size = g.bs i
  inj : ∀ x y, live g L τ x → live g L τ y → blk g x = blk g y → x = y

variable {c : Cx} {g : Gh} {L : List (Option (List D))} {τ : List Bool} {B : List (List D)} {w : World}

theorem bx_getD {bx : List Nat} {i k : Nat} (h : bx[i]? = some k) : bx.getD i 0 = k := by simp [List.getD_eq_getElem?_getD, h]

theorem bx_get {bx : List Nat} {i : Nat} (h : i < bx.length) : bx[i]? = some (bx.getD i 0) := by simp [List.getD_eq_getElem?_getD, h]

theorem FS.boxAt (h : FS c g L τ B w) {i k : Nat} (hk : g.bx[i]? = some k) : ∃ ds, B[i]? = some ds ∧ BoxAt (Rep g.bx g.s w) g.s w k ds := by
  have hlt : i < B.length := by rw [h.nB]; exact lt_of_get hk
  exact ⟨_, List.getElem?_eq_getElem hlt, h.boxB i _ k (List.getElem?_eq_getElem hlt) hk⟩

theorem FS.lt (h : FS c g L τ B w) {x : Nm} (hx : live g L τ x) : blk g x < w.heap.size := by
  cases x with
  | l i => obtain ⟨ds, hd⟩ := hx; obtain ⟨_, cs, t, fr, hh, _⟩ := h.boxL i ds hd; exact (Array.getElem?_eq_some_iff.1 hh).1
  | t i => obtain ⟨_, cs, t, hh, _⟩ := h.tok i hx.1 hx.2; exact (Array.getElem?_eq_some_iff.1 hh).1
  | b i =>
    obtain ⟨ds, _, _, cs, t, fr, hh, _⟩ := h.boxAt (bx_get hx)
    exact (Array.getElem?_eq_some_iff.1 hh).1

/-- All that may be written lies behind what was there when the whole began. -/
theorem FS.baseL (h : FS c g L τ B w) {i : Nat} {ds : List D} (hi : L[i]? = some (some ds)) : c.base ≤ g.loc i :=
  (h.newL i ds hi).elim (fun h1 => Nat.le_trans h.baseLe h1) (fun h1 => h.old _ (.inr h1))
theorem FS.baseT (h : FS c g L τ B w) {i : Nat} (hi : τ[i]? = some true) (ho : g.ow i = true) : c.base ≤ g.tk i :=
  (h.newT i hi ho).elim (fun h1 => Nat.le_trans h.baseLe h1) (fun h1 => h.old _ (.inr h1))
theorem FS.baseB (h : FS c g L τ B w) {b k : Nat} (hb : g.bx[b]? = some k) : c.base ≤ k :=
  (h.newB b k hb).elim (fun h1 => Nat.le_trans h.baseLe h1) (fun h1 => h.old _ (.inl h1))

theorem BoxAt.mono {R R' : D → Value → Prop} {s s' : Nat → Nat} {w w' : World} {k : Nat} {ds : List D} (h : BoxAt R s w k ds) (hr : ∀ d v, R d v → R' d v) (hs : s' k = s k)
    (hh : w'.heap[k]? = w.heap[k]?) : BoxAt R' s' w' k ds := by
  obtain ⟨h0, cs, t, fr, h1, h2, h3⟩ := h
  refine ⟨hs.trans h0, cs, t, fr, hh.trans h1, h2, fun j d hj => ?_⟩
  obtain ⟨v, hv, hrv⟩ := h3 j d hj
  exact ⟨v, hv, hr d v hrv⟩

/-- The world after a new block, and its number's stable cells. -/
def Gh.withS (g : Gh) (k n : Nat) : Gh := { g with s := fun q => if q = k then n else g.s q }

theorem ev_new (bx : List Nat) (s s' : Nat → Nat) (w w' : World) (hs : ∀ k, k < w.heap.size → s' k = s k) (hh : ∀ k, k < w.heap.size → w'.heap[k]? = w.heap[k]?) : Ev bx s w bx s' w' := by
  refine ⟨fun _ _ h => h, fun k hk => Nat.le_of_eq (hs k hk).symm, fun k o v _ hc => ?_⟩
  have hk : k < w.heap.size := World.block_lt_of_cell? w _ hc
  rw [World.cell?_of_block (w := w) (hh k hk)]; exact hc

/-- Nothing has changed but the tape. -/
theorem FS.same {w' : World} (h : FS c g L τ B w) (hh : w'.heap = w.heap) (ho : w'.os = w.os) (ht : w'.tape = w.tape) (hp : w'.output = w.output) :
    FS c g L τ B w' ∧ Gle c g (dom L) τ.length w g (dom L) τ.length w' := by
  have hg : Gle c g (dom L) τ.length w g (dom L) τ.length w' :=
    ⟨ev_new _ _ _ _ _ (fun _ _ => rfl) (fun _ _ => by rw [hh]), fun _ h => h, Nat.le_refl _, fun _ _ => rfl, fun _ _ => rfl, fun _ _ => rfl, fun _ _ => rfl, fun _ _ => rfl, by rw [hh]; exact Nat.le_refl _⟩
  refine ⟨⟨⟨ho.trans h.below.os, ht.trans h.below.tape, hp.trans h.below.output, by rw [hh]; exact h.below.size, fun k hk => by rw [hh]; exact h.below.block k hk⟩,
    by rw [hh]; exact h.entry, h.baseLe, h.nB, h.pre, fun k hk => h.zero k (by rw [hh] at hk; exact hk), fun k hk hb hm => by rw [hh]; exact h.frame k hk hb hm, ho.trans h.os, ht.trans h.tape, hp.trans h.output,
    h.newL, h.newT, h.newB, h.old, h.mvS.gle hg, fun i ds hi => (h.boxL i ds hi).mono (fun _ _ hr => hr.mono hg) rfl (by rw [hh]), fun i ds k hi hk => (h.boxB i ds k hi hk).mono (fun _ _ hr => hr.mono hg.ev) rfl (by rw [hh]),
    fun i hi hw => ?_, h.inj⟩, hg⟩
  obtain ⟨h1, cs, t, h2, h3⟩ := h.tok i hi hw
  exact ⟨h1, cs, t, by rw [hh]; exact h2, h3⟩

/-- A new block, of which so many cells are stable from now on. -/
theorem FS.alloc_stable (h : FS c g L τ B w) (cs : Array Value) (t : TypeId) (n : Nat) (fr : Nat × Nat := (0, 0)) :
    FS c (g.withS w.heap.size n) L τ B (w.alloc (.cells cs t fr)) ∧ Gle c g (dom L) τ.length w (g.withS w.heap.size n) (dom L) τ.length (w.alloc (.cells cs t fr)) := by
  have hold : ∀ k, k < w.heap.size → (w.alloc (.cells cs t fr)).heap[k]? = w.heap[k]? := fun k hk => Below.heap_alloc w _ k hk
  have hs : ∀ k, k < w.heap.size → (g.withS w.heap.size n).s k = g.s k := fun k hk => by simp [Gh.withS, Nat.ne_of_lt hk]
  have hg : Gle c g (dom L) τ.length w (g.withS w.heap.size n) (dom L) τ.length (w.alloc (.cells cs t fr)) :=
    ⟨ev_new _ _ _ _ _ hs hold, fun _ h => h, Nat.le_refl _, fun _ _ => rfl, fun _ _ => rfl, fun _ _ => rfl, fun _ _ => rfl, fun _ _ => rfl, by simp⟩
  refine ⟨⟨h.below.alloc (Nat.le_trans h.baseLe h.entry) _, by have := h.entry; simp; omega, h.baseLe, h.nB, h.pre, fun k hk => ?_, fun k hk hb hm => ?_, h.os, h.tape, h.output,
    h.newL, h.newT, h.newB, h.old, h.mvS.gle hg, fun i ds hi => ?_, fun i ds k hi hk => ?_, fun i hi hw => ?_, h.inj⟩, hg⟩
  · simp at hk
    have : k ≠ w.heap.size := by omega
    simp [Gh.withS, this]; exact h.zero k (by omega)
  · have hlt := Nat.lt_of_lt_of_le hk h.entry
    rw [hold k hlt, hs k hlt]; exact h.frame k hk hb hm
  · have hlt := h.lt (x := .l i) ⟨ds, hi⟩
    exact (h.boxL i ds hi).mono (fun _ _ hr => hr.mono hg) (hs _ hlt) (hold _ hlt)
  · have hlt := h.lt (x := .b i) (lt_of_get hk)
    rw [show blk g (.b i) = k from bx_getD hk] at hlt
    exact (h.boxB i ds k hi hk).mono (fun _ _ hr => hr.mono hg.ev) (hs _ hlt) (hold _ hlt)
  · have hlt := h.lt (x := .t i) ⟨hi, hw⟩
    obtain ⟨h1, cs', t', h2, h3⟩ := h.tok i hi hw
    exact ⟨(hs _ hlt).trans h1, cs', t', (hold _ hlt).trans h2, h3⟩

/-- A box more, by this number. -/
def ins (L : List (Option (List D))) (k : Nat) (ds : List D) : List (Option (List D)) := (L ++ List.replicate (k + 1 - L.length) (.none : Option (List D))).set k (some ds)

theorem ins_len (L : List (Option (List D))) (ds : List D) : ins L L.length ds = L ++ [some ds] := by
  unfold ins
  have : L.length + 1 - L.length = 1 := by omega
  rw [this]
  apply List.ext_getElem?
  intro i
  rw [List.getElem?_set]
  by_cases h : L.length = i
  · subst h; simp
  · rw [if_neg h]
    rcases Nat.lt_or_ge i L.length with hi | hi
    · rw [List.getElem?_append_left hi, List.getElem?_append_left hi]
    · rw [List.getElem?_append_right hi, List.getElem?_append_right hi]
      have : 1 ≤ i - L.length := by omega
      rw [List.getElem?_eq_none (by simpa using this), List.getElem?_eq_none (by simpa using this)]

theorem ins_get {L : List (Option (List D))} {k i : Nat} {ds es : List D} : (ins L k ds)[i]? = some (some es) ↔ (i = k ∧ es = ds) ∨ (i ≠ k ∧ L[i]? = some (some es)) := by
  unfold ins
  rw [List.getElem?_set]
  by_cases h : k = i
  · subst h
    have : k < (L ++ List.replicate (k + 1 - L.length) (.none : Option (List D))).length := by simp; omega
    rw [if_pos rfl, if_pos this]
    constructor
    · intro e; injection e with e; injection e with e; exact .inl ⟨rfl, e.symm⟩
    · rintro (⟨_, rfl⟩ | ⟨h, _⟩)
      · rfl
      · exact absurd rfl h
  · rw [if_neg h]
    have hne : i ≠ k := fun e => h e.symm
    rcases Nat.lt_or_ge i L.length with hi | hi
    · rw [List.getElem?_append_left hi]
      simp [hne]
    · rw [List.getElem?_append_right hi, List.getElem?_eq_none hi]
      simp only [hne, false_and, ne_eq, not_false_eq_true, true_and, false_or]
      constructor
      · intro e
        rw [List.getElem?_replicate] at e
        split at e <;> simp at e
      · intro e; cases e

theorem dom_ins {L : List (Option (List D))} {k i : Nat} {ds : List D} : dom (ins L k ds) i ↔ i = k ∨ dom L i := by
  constructor
  · rintro ⟨es, h⟩
    rcases ins_get.1 h with ⟨h, _⟩ | ⟨_, h⟩
    · exact .inl h
    · exact .inr ⟨es, h⟩
  · intro h
    by_cases hk : i = k
    · exact ⟨ds, ins_get.2 (.inl ⟨hk, rfl⟩)⟩
    · obtain ⟨es, hs⟩ := h.resolve_left hk
      exact ⟨es, ins_get.2 (.inr ⟨hk, hs⟩)⟩

theorem dom_new (L : List (Option (List D))) (ds : List D) : dom (L ++ [some ds]) L.length := by
  rw [← ins_len]; exact dom_ins.2 (.inl rfl)

theorem dom_lt {L : List (Option (List D))} {i : Nat} (h : dom L i) : i < L.length := by
  obtain ⟨_, h⟩ := h; exact (List.getElem?_eq_some_iff.1 h).1

theorem live_ins {k : Nat} {ds : List D} {x : Nm} (h : live g (ins L k ds) τ x) : live g L τ x ∨ x = .l k := by
  cases x with
  | l i =>
    obtain ⟨es, hd⟩ := h
    rcases ins_get.1 hd with ⟨h, _⟩ | ⟨_, h⟩
    · exact .inr (by rw [h])
    · exact .inl ⟨es, h⟩
  | t i => exact .inl h
  | b i => exact .inl h

theorem tok_snoc {i : Nat} {b : Bool} (h : (τ ++ [b])[i]? = some true) : τ[i]? = some true ∨ i = τ.length := by
  rcases Nat.lt_trichotomy i τ.length with hi | hi | hi
  · rw [List.getElem?_append_left hi] at h; exact .inl h
  · exact .inr hi
  · rw [List.getElem?_eq_none (by simp; omega)] at h; cases h

/-- A new block that is a box of the frame's own. -/
def Gh.newL (g : Gh) (i k : Nat) : Gh := { g with loc := fun q => if q = i then k else g.loc q }

theorem FS.alloc_at (h : FS c g L τ B w) (k : Nat) (hk : ¬ dom L k) (cs : Array Value) (t : TypeId) (fr : Nat × Nat) (ds : List D) (hfr : nofr fr cs.size)
    (hr : ∀ (j : Nat) (d : D), ds[j]? = some d → ∃ v : Value, cs[j]? = some v ∧ RepF c g (dom L) τ.length w d v) :
    FS c (g.newL k w.heap.size) (ins L k ds) τ B (w.alloc (.cells cs t fr)) ∧
      Gle c g (dom L) τ.length w (g.newL k w.heap.size) (dom (ins L k ds)) τ.length (w.alloc (.cells cs t fr)) := by
  have hold : ∀ q, q < w.heap.size → (w.alloc (.cells cs t fr)).heap[q]? = w.heap[q]? := fun q hq => Below.heap_alloc w _ q hq
  have hloc : ∀ i, dom L i → (g.newL k w.heap.size).loc i = g.loc i := fun i hi => by
    have : i ≠ k := fun e => hk (e ▸ hi)
    simp [Gh.newL, this]
  have hg : Gle c g (dom L) τ.length w (g.newL k w.heap.size) (dom (ins L k ds)) τ.length (w.alloc (.cells cs t fr)) :=
    ⟨ev_new _ _ _ _ _ (fun _ _ => rfl) hold, fun i hi => dom_ins.2 (.inr hi), Nat.le_refl _, hloc, fun _ _ => rfl, fun _ _ => rfl, fun _ _ => rfl, fun _ _ => rfl, by simp⟩
  have hnew : (w.alloc (.cells cs t fr)).heap[w.heap.size]? = some (.cells cs t fr) := heap_alloc_new w _
  have hblk : ∀ x, live g L τ x → blk (g.newL k w.heap.size) x = blk g x := fun x hx => by
    cases x with
    | l i => exact hloc i hx
    | t i => rfl
    | b i => rfl
  have hbn : blk (g.newL k w.heap.size) (.l k) = w.heap.size := by simp [blk, Gh.newL]
  have hlive : ∀ x, live (g.newL k w.heap.size) (ins L k ds) τ x → live g L τ x ∨ x = .l k := fun x hx => live_ins (g := g) (by cases x <;> exact hx)
  refine ⟨⟨h.below.alloc (Nat.le_trans h.baseLe h.entry) _, by have := h.entry; simp; omega, h.baseLe, h.nB, h.pre, fun q hq => h.zero q (by simp at hq; omega), fun q hq hb hm => ?_, h.os, h.tape, h.output,
    fun i es hi => ?_, h.newT, h.newB, h.old, h.mvS.gle hg, fun i es hi => ?_, fun i es q hi hq => ?_, fun i hi hw => ?_, fun x y hx hy he => ?_⟩, hg⟩
  · have hlt := Nat.lt_of_lt_of_le hq h.entry
    rw [hold q hlt]; exact h.frame q hq hb hm
  · rcases ins_get.1 hi with ⟨rfl, _⟩ | ⟨_, hi'⟩
    · refine .inl ?_
      show _ ≤ blk _ (.l i)
      rw [hbn]; exact h.entry
    · rw [hloc i ⟨es, hi'⟩]; exact h.newL i es hi'
  · rcases ins_get.1 hi with ⟨rfl, rfl⟩ | ⟨_, hi'⟩
    · show BoxAt _ _ _ (blk (g.newL i w.heap.size) (.l i)) _
      rw [hbn]
      refine ⟨h.zero _ (Nat.le_refl _), cs, t, fr, hnew, hfr, fun j d hj => ?_⟩
      obtain ⟨v, hv, hrv⟩ := hr j d hj
      exact ⟨v, hv, hrv.mono hg⟩
    · have hlt := h.lt (x := .l i) ⟨es, hi'⟩
      have hb := h.boxL i es hi'
      rw [hloc i ⟨es, hi'⟩]
      exact hb.mono (fun _ _ hr => hr.mono hg) rfl (hold _ hlt)
  · have hlt := h.lt (x := .b i) (lt_of_get hq)
    rw [show blk g (.b i) = q from bx_getD hq] at hlt
    exact (h.boxB i es q hi hq).mono (fun _ _ hr => hr.mono hg.ev) rfl (hold _ hlt)
  · have hlt := h.lt (x := .t i) ⟨hi, hw⟩
    obtain ⟨h1, cs', t', h2, h3⟩ := h.tok i hi hw
    exact ⟨h1, cs', t', (hold _ hlt).trans h2, h3⟩
  · rcases hlive x hx with hx | rfl <;> rcases hlive y hy with hy | rfl
    · rw [hblk x hx, hblk y hy] at he; exact h.inj x y hx hy he
    · rw [hblk x hx, hbn] at he; exact absurd he (Nat.ne_of_lt (h.lt hx))
    · rw [hblk y hy, hbn] at he; exact absurd he.symm (Nat.ne_of_lt (h.lt hy))
    · rfl

theorem FS.alloc_box (h : FS c g L τ B w) (cs : Array Value) (t : TypeId) (fr : Nat × Nat) (ds : List D) (hfr : nofr fr cs.size)
    (hr : ∀ (j : Nat) (d : D), ds[j]? = some d → ∃ v : Value, cs[j]? = some v ∧ RepF c g (dom L) τ.length w d v) :
    FS c (g.newL L.length w.heap.size) (L ++ [some ds]) τ B (w.alloc (.cells cs t fr)) ∧
      Gle c g (dom L) τ.length w (g.newL L.length w.heap.size) (dom (L ++ [some ds])) τ.length (w.alloc (.cells cs t fr)) := by
  have := h.alloc_at L.length (fun h => Nat.lt_irrefl _ (dom_lt h)) cs t fr ds hfr hr
  rwa [ins_len] at this

/-- A new block that is a shared box. -/
def Gh.newB (g : Gh) (k : Nat) : Gh := { g with bx := g.bx ++ [k] }

theorem snoc_get {l : List Nat} {x i k : Nat} (h : (l ++ [x])[i]? = some k) : l[i]? = some k ∨ (i = l.length ∧ k = x) := by
  rcases Nat.lt_trichotomy i l.length with hi | hi | hi
  · rw [List.getElem?_append_left hi] at h; exact .inl h
  · subst hi; simp at h; exact .inr ⟨rfl, h.symm⟩
  · rw [List.getElem?_eq_none (by simp; omega)] at h; cases h

theorem FS.alloc_shared (h : FS c g L τ B w) (cs : Array Value) (t : TypeId) (fr : Nat × Nat) (ds : List D) (hfr : nofr fr cs.size)
    (hr : ∀ (j : Nat) (d : D), ds[j]? = some d → ∃ v : Value, cs[j]? = some v ∧ Rep g.bx g.s w d v) :
    FS c (g.newB w.heap.size) L τ (B ++ [ds]) (w.alloc (.cells cs t fr)) ∧
      Gle c g (dom L) τ.length w (g.newB w.heap.size) (dom L) τ.length (w.alloc (.cells cs t fr)) := by
  have hold : ∀ q, q < w.heap.size → (w.alloc (.cells cs t fr)).heap[q]? = w.heap[q]? := fun q hq => Below.heap_alloc w _ q hq
  have hbx : ∀ b k : Nat, g.bx[b]? = some k → (g.newB w.heap.size).bx[b]? = some k := fun b k hb => by
    simp only [Gh.newB]; rw [List.getElem?_append_left (lt_of_get hb)]; exact hb
  have hev : Ev g.bx g.s w (g.newB w.heap.size).bx g.s (w.alloc (.cells cs t fr)) := by
    obtain ⟨_, e2, e3⟩ := ev_new g.bx g.s g.s w (w.alloc (.cells cs t fr)) (fun _ _ => rfl) hold
    exact ⟨hbx, e2, e3⟩
  have hg : Gle c g (dom L) τ.length w (g.newB w.heap.size) (dom L) τ.length (w.alloc (.cells cs t fr)) :=
    ⟨hev, fun i hi => hi, Nat.le_refl _, fun _ _ => rfl, fun _ _ => rfl, fun _ _ => rfl, fun _ _ => rfl, fun _ _ => rfl, by simp⟩
  have hnew : (w.alloc (.cells cs t fr)).heap[w.heap.size]? = some (.cells cs t fr) := heap_alloc_new w _
  have hlive : ∀ x, live (g.newB w.heap.size) L τ x → live g L τ x ∧ blk (g.newB w.heap.size) x = blk g x ∨ x = .b g.bx.length := fun x hx => by
    cases x with
    | l i => exact .inl ⟨hx, rfl⟩
    | t i => exact .inl ⟨hx, rfl⟩
    | b i =>
      have hx : i < (g.bx ++ [w.heap.size]).length := hx
      rw [List.length_append, List.length_singleton] at hx
      rcases Nat.lt_or_ge i g.bx.length with hi | hi
      · refine .inl ⟨hi, ?_⟩
        show (g.bx ++ [w.heap.size]).getD i 0 = g.bx.getD i 0
        simp [List.getD_eq_getElem?_getD, List.getElem?_append_left hi]
      · exact .inr (by congr 1; omega)
  have hbn : blk (g.newB w.heap.size) (.b g.bx.length) = w.heap.size := by
    show (g.bx ++ [w.heap.size]).getD g.bx.length 0 = _
    simp [List.getD_eq_getElem?_getD]
  refine ⟨⟨h.below.alloc (Nat.le_trans h.baseLe h.entry) _, by have := h.entry; simp; omega, h.baseLe, by simp [Gh.newB, h.nB], fun b k hb => hbx b k (h.pre b k hb), fun q hq => h.zero q (by simp at hq; omega), fun q hq hb hm => ?_, h.os, h.tape, h.output,
    h.newL, h.newT, fun b k hb => ?_, h.old, h.mvS.gle hg, fun i es hi => ?_, fun i es q hi hq => ?_, fun i hi hw => ?_, fun x y hx hy he => ?_⟩, hg⟩
  · have hlt := Nat.lt_of_lt_of_le hq h.entry
    rw [hold q hlt]; exact h.frame q hq hb hm
  · rcases snoc_get hb with hb | ⟨_, rfl⟩
    · exact h.newB b k hb
    · exact .inl h.entry
  · have hlt := h.lt (x := .l i) ⟨es, hi⟩
    exact (h.boxL i es hi).mono (fun _ _ hr => hr.mono hg) rfl (hold _ hlt)
  · rcases snoc_get hq with hq | ⟨rfl, rfl⟩
    · have hlt := h.lt (x := .b i) (lt_of_get hq)
      rw [show blk g (.b i) = q from bx_getD hq] at hlt
      rw [List.getElem?_append_left (by rw [h.nB]; exact lt_of_get hq)] at hi
      exact (h.boxB i es q hi hq).mono (fun _ _ hr => hr.mono hg.ev) rfl (hold _ hlt)
    · rw [← h.nB] at hi
      simp at hi
      subst hi
      refine ⟨h.zero _ (Nat.le_refl _), cs, t, fr, hnew, hfr, fun j d hj => ?_⟩
      obtain ⟨v, hv, hrv⟩ := hr j d hj
      exact ⟨v, hv, hrv.mono hg.ev⟩
  · have hlt := h.lt (x := .t i) ⟨hi, hw⟩
    obtain ⟨h1, cs', t', h2, h3⟩ := h.tok i hi hw
    exact ⟨h1, cs', t', (hold _ hlt).trans h2, h3⟩
  · rcases hlive x hx with ⟨hx, ex⟩ | rfl <;> rcases hlive y hy with ⟨hy, ey⟩ | rfl
    · rw [ex, ey] at he; exact h.inj x y hx hy he
    · rw [ex, hbn] at he; exact absurd he (Nat.ne_of_lt (h.lt hx))
    · rw [ey, hbn] at he; exact absurd he.symm (Nat.ne_of_lt (h.lt hy))
    · rfl

/-- A new block that is a row of the frame's own, to which it may append; or (o: false) a name for no row. -/
def Gh.newT (g : Gh) (i k e b : Nat) (o : Bool := true) : Gh :=
  { g with tk := fun q => if q = i then k else g.tk q, en := fun q => if q = i then e else g.en q, bs := fun q => if q = i then b else g.bs q, ow := fun q => if q = i then o else g.ow q }

/-- A name for no row. -/
theorem FS.name (h : FS c g L τ B w) : FS c (g.newT τ.length 0 0 0 false) L (τ ++ [true]) B w ∧ Gle c g (dom L) τ.length w (g.newT τ.length 0 0 0 false) (dom L) (τ ++ [true]).length w := by
  have htk : ∀ i, i < τ.length → (g.newT τ.length 0 0 0 false).tk i = g.tk i := fun i hi => by simp [Gh.newT, Nat.ne_of_lt hi]
  have how : ∀ i, i < τ.length → (g.newT τ.length 0 0 0 false).ow i = g.ow i := fun i hi => by simp [Gh.newT, Nat.ne_of_lt hi]
  have hg : Gle c g (dom L) τ.length w (g.newT τ.length 0 0 0 false) (dom L) (τ ++ [true]).length w :=
    ⟨Ev.refl _ _ _, fun _ h => h, by simp, fun _ _ => rfl, htk, fun i hi => by simp [Gh.newT, Nat.ne_of_lt hi], fun i hi => by simp [Gh.newT, Nat.ne_of_lt hi], how, Nat.le_refl _⟩
  have hno : (g.newT τ.length 0 0 0 false).ow τ.length = false := by simp [Gh.newT]
  have htok : ∀ i, (τ ++ [true])[i]? = some true → (g.newT τ.length 0 0 0 false).ow i = true → τ[i]? = some true ∧ g.ow i = true := fun i hi hw => by
    rcases tok_snoc hi with hi | rfl
    · exact ⟨hi, by rw [← how i (lt_of_get hi)]; exact hw⟩
    · rw [hno] at hw; cases hw
  have hlive : ∀ x, live (g.newT τ.length 0 0 0 false) L (τ ++ [true]) x → live g L τ x ∧ blk (g.newT τ.length 0 0 0 false) x = blk g x := fun x hx => by
    cases x with
    | l i => exact ⟨hx, rfl⟩
    | t i => have := htok i hx.1 hx.2; exact ⟨this, htk i (lt_of_get this.1)⟩
    | b i => exact ⟨hx, rfl⟩
  refine ⟨⟨h.below, h.entry, h.baseLe, h.nB, h.pre, h.zero, h.frame, h.os, h.tape, h.output, h.newL, fun i hi hw => ?_, h.newB, h.old, h.mvS.gle hg, fun i ds hi => ?_, h.boxB, fun i hi hw => ?_, fun x y hx hy he => ?_⟩, hg⟩
  · obtain ⟨a1, a2⟩ := htok i hi hw
    rw [htk i (lt_of_get a1)]; exact h.newT i a1 a2
  · exact (h.boxL i ds hi).mono (fun _ _ hr => hr.mono hg) rfl rfl
  · obtain ⟨a1, a2⟩ := htok i hi hw
    obtain ⟨b1, cs, t, b2, b3⟩ := h.tok i a1 a2
    have hlt := lt_of_get a1
    refine ⟨?_, cs, t, ?_, ?_⟩
    · rw [htk i hlt]; simp only [Gh.newT, Nat.ne_of_lt hlt, if_false]; exact b1
    · rw [htk i hlt]; exact b2
    · simp only [Gh.newT, Nat.ne_of_lt hlt, if_false]; exact b3
  · obtain ⟨a1, a2⟩ := hlive x hx
    obtain ⟨b1, b2⟩ := hlive y hy
    rw [a2, b2] at he; exact h.inj x y a1 b1 he

/-- A row that is this frame's own from now on. -/
theorem FS.adopt (h : FS c g L τ B w) (k n b : Nat) (hk : c.we.heap.size ≤ k ∨ k ∈ c.mv) (hs : g.s k = n) (hh : ∃ (cs : Array Value) (t : TypeId), w.heap[k]? = some (.cells cs t (0, 0)) ∧ cs.size = b)
    (hne : ∀ x, live g L τ x → blk g x ≠ k) :
    FS c (g.newT τ.length k n b) L (τ ++ [true]) B w ∧ Gle c g (dom L) τ.length w (g.newT τ.length k n b) (dom L) (τ ++ [true]).length w := by
  have htk : ∀ i, i < τ.length → (g.newT τ.length k n b).tk i = g.tk i := fun i hi => by simp [Gh.newT, Nat.ne_of_lt hi]
  have how : ∀ i, i < τ.length → (g.newT τ.length k n b).ow i = g.ow i := fun i hi => by simp [Gh.newT, Nat.ne_of_lt hi]
  have hg : Gle c g (dom L) τ.length w (g.newT τ.length k n b) (dom L) (τ ++ [true]).length w :=
    ⟨Ev.refl _ _ _, fun _ h => h, by simp, fun _ _ => rfl, htk, fun i hi => by simp [Gh.newT, Nat.ne_of_lt hi], fun i hi => by simp [Gh.newT, Nat.ne_of_lt hi], how, Nat.le_refl _⟩
  have hlive : ∀ x, live (g.newT τ.length k n b) L (τ ++ [true]) x → live g L τ x ∧ blk (g.newT τ.length k n b) x = blk g x ∨ x = .t τ.length := fun x hx => by
    cases x with
    | l i => exact .inl ⟨hx, rfl⟩
    | t i =>
      rcases tok_snoc hx.1 with hi | rfl
      · exact .inl ⟨⟨hi, by rw [← how i (lt_of_get hi)]; exact hx.2⟩, htk i (lt_of_get hi)⟩
      · exact .inr rfl
    | b i => exact .inl ⟨hx, rfl⟩
  have hbn : blk (g.newT τ.length k n b) (.t τ.length) = k := by simp [blk, Gh.newT]
  refine ⟨⟨h.below, h.entry, h.baseLe, h.nB, h.pre, h.zero, h.frame, h.os, h.tape, h.output, h.newL, fun i hi hw => ?_, h.newB, h.old, h.mvS.gle hg, fun i ds hi => ?_, h.boxB, fun i hi hw => ?_, fun x y hx hy he => ?_⟩, hg⟩
  · rcases tok_snoc hi with hi' | rfl
    · have hlt := lt_of_get hi'
      rw [how i hlt] at hw
      rw [htk i hlt]; exact h.newT i hi' hw
    · show _ ≤ blk _ (.t τ.length) ∨ blk _ (.t τ.length) ∈ _
      rw [hbn]; exact hk
  · exact (h.boxL i ds hi).mono (fun _ _ hr => hr.mono hg) rfl rfl
  · rcases tok_snoc hi with hi' | rfl
    · have hlt := lt_of_get hi'
      rw [how i hlt] at hw
      obtain ⟨a1, cs', t', a2, a3⟩ := h.tok i hi' hw
      refine ⟨?_, cs', t', ?_, ?_⟩
      · rw [htk i hlt]; simp only [Gh.newT, Nat.ne_of_lt hlt, if_false]; exact a1
      · rw [htk i hlt]; exact a2
      · simp only [Gh.newT, Nat.ne_of_lt hlt, if_false]; exact a3
    · obtain ⟨cs, t, h1, h2⟩ := hh
      refine ⟨?_, cs, t, ?_, ?_⟩
      · simp [Gh.newT]; exact hs
      · simpa [Gh.newT] using h1
      · simp [Gh.newT, h2]
  · rcases hlive x hx with ⟨hx, ex⟩ | rfl <;> rcases hlive y hy with ⟨hy, ey⟩ | rfl
    · rw [ex, ey] at he; exact h.inj x y hx hy he
    · rw [ex, hbn] at he; exact absurd he (hne x hx)
    · rw [ey, hbn] at he; exact absurd he.symm (hne y hy)
    · rfl

theorem FS.alloc_tok (h : FS c g L τ B w) (cs : Array Value) (t : TypeId) (n : Nat) :
    FS c ((g.withS w.heap.size n).newT τ.length w.heap.size n cs.size) L (τ ++ [true]) B (w.alloc (.cells cs t)) ∧
      Gle c g (dom L) τ.length w ((g.withS w.heap.size n).newT τ.length w.heap.size n cs.size) (dom L) (τ ++ [true]).length (w.alloc (.cells cs t)) := by
  obtain ⟨h1, hg1⟩ := h.alloc_stable cs t n
  obtain ⟨h2, hg2⟩ := h1.adopt w.heap.size n cs.size (.inl h.entry) (by simp [Gh.withS]) ⟨cs, t, heap_alloc_new w (.cells cs t), rfl⟩ (fun x hx => Nat.ne_of_lt (by
    have hx' : live g L τ x := by cases x <;> exact hx
    have : blk (g.withS w.heap.size n) x = blk g x := by cases x <;> rfl
    rw [this]; exact h.lt hx'))
  exact ⟨h2, hg1.trans hg2⟩

end Go.Proofs.YtploddijjofphaaDoor.V
