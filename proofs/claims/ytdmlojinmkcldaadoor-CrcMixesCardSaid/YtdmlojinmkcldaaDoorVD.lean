/-
A call's own frame: what its slots hold, its own boxes and rows; what a step leaves as it was.
-/
import Derived.Test.YtdmlojinmkcldaaDoorVC
namespace Go.Proofs.YtdmlojinmkcldaaDoor.V
set_option linter.unusedSimpArgs false
set_option linter.unusedVariables false
open Go Go.RowKit

/-- What does not change while a call runs: the boxes that all share; the world in which the call began, and what was stable there; the world in which the whole began. -/
structure Cx where
  P : Program
  bx : Nat → Nat
  nB : Nat
  base : Nat
  w0 : World
  we : World
  s0 : Nat → Nat

structure Gh where
  loc : Nat → Nat
  tk : Nat → Nat
  en : Nat → Nat
  bs : Nat → Nat
  s : Nat → Nat

/-- The boxes that there are. -/
def dom (L : List (Option (List D))) : Nat → Prop := fun i => ∃ ds, L[i]? = some (some ds)

inductive RepF (c : Cx) (g : Gh) (nL : Nat → Prop) (nT : Nat) (w : World) : D → Value → Prop
  | undef (v : Value) : RepF c g nL nT w .undef v
  | clean (d : D) (v : Value) (h : Rep c.bx g.s w d v) : RepF c g nL nT w d v
  | lptr (i off : Nat) (hi : nL i) : RepF c g nL nT w (.lptr i off) (.pointer (some ⟨g.loc i, off, none⟩))
  | lsl (i off len sz cap : Nat) (hi : nL i) (hc : len ≤ cap) : RepF c g nL nT w (.lsl i off len sz) (.slice (some ⟨g.loc i, off, none⟩) len cap)
  | own (i sz : Nat) (xs : List D) (cap : Nat) (hi : i < nT) (h : Rep c.bx g.s w (.vec sz xs .none) (.slice (some ⟨g.tk i, 0, none⟩) xs.length cap))
      (he : xs.length * sz = g.en i) (hb : cap * sz = g.bs i) : RepF c g nL nT w (.vec sz xs (.own i)) (.slice (some ⟨g.tk i, 0, none⟩) xs.length cap)
  | agg (ds : List D) (vs : Array Value) (hl : ds.length = vs.size) (h : ∀ i d, ds[i]? = some d → RepF c g nL nT w d (vs.getD i Go.undef)) : RepF c g nL nT w (.agg ds) (.agg vs)
  | tuple (ds : List D) (vs : Array Value) (hl : ds.length = vs.size) (h : ∀ i d, ds[i]? = some d → RepF c g nL nT w d (vs.getD i Go.undef)) : RepF c g nL nT w (.tuple ds) (.tuple vs)

/-- From one state to another one: what was told stays told. -/
structure Gle (c : Cx) (g : Gh) (nL : Nat → Prop) (nT : Nat) (w : World) (g' : Gh) (nL' : Nat → Prop) (nT' : Nat) (w' : World) : Prop where
  ev : Ev c.bx g.s w c.bx g'.s w'
  leL : ∀ i, nL i → nL' i
  leT : nT ≤ nT'
  loc : ∀ i, nL i → g'.loc i = g.loc i
  tk : ∀ i, i < nT → g'.tk i = g.tk i
  en : ∀ i, i < nT → g'.en i = g.en i
  bs : ∀ i, i < nT → g'.bs i = g.bs i
  size : w.heap.size ≤ w'.heap.size

theorem Gle.refl (c : Cx) (g : Gh) (nL : Nat → Prop) (nT : Nat) (w : World) : Gle c g nL nT w g nL nT w :=
  ⟨Ev.refl _ _ _, fun _ h => h, Nat.le_refl _, fun _ _ => rfl, fun _ _ => rfl, fun _ _ => rfl, fun _ _ => rfl, Nat.le_refl _⟩

theorem Gle.trans {c : Cx} {g g' g'' : Gh} {nL nL' nL'' : Nat → Prop} {nT nT' nT'' : Nat} {w w' w'' : World} (h : Gle c g nL nT w g' nL' nT' w') (h' : Gle c g' nL' nT' w' g'' nL'' nT'' w'') :
    Gle c g nL nT w g'' nL'' nT'' w'' :=
  ⟨Ev.trans h.size h.ev h'.ev, fun i hi => h'.leL i (h.leL i hi), Nat.le_trans h.leT h'.leT, fun i hi => (h'.loc i (h.leL i hi)).trans (h.loc i hi),
    fun i hi => (h'.tk i (Nat.lt_of_lt_of_le hi h.leT)).trans (h.tk i hi), fun i hi => (h'.en i (Nat.lt_of_lt_of_le hi h.leT)).trans (h.en i hi),
    fun i hi => (h'.bs i (Nat.lt_of_lt_of_le hi h.leT)).trans (h.bs i hi), Nat.le_trans h.size h'.size⟩

theorem RepF.mono {c : Cx} {g g' : Gh} {nL nL' : Nat → Prop} {nT nT' : Nat} {w w' : World} (hg : Gle c g nL nT w g' nL' nT' w') {d : D} {v : Value} (h : RepF c g nL nT w d v) : RepF c g' nL' nT' w' d v := by
  induction h with
  | undef v => exact .undef v
  | clean d v h => exact .clean d v (h.mono hg.ev)
  | lptr i off hi => rw [← hg.loc i hi]; exact .lptr i off (hg.leL i hi)
  | lsl i off len sz cap hi hc => rw [← hg.loc i hi]; exact .lsl i off len sz cap (hg.leL i hi) hc
  | own i sz xs cap hi h he hb =>
    have h2 := h.mono hg.ev
    rw [← hg.tk i hi] at h2 ⊢
    exact .own i sz xs cap (Nat.lt_of_lt_of_le hi hg.leT) h2 (he.trans (hg.en i hi).symm) (hb.trans (hg.bs i hi).symm)
  | agg ds vs hl h ih => exact .agg ds vs hl ih
  | tuple ds vs hl h ih => exact .tuple ds vs hl ih

/-! ### The names of blocks that may be written -/
inductive Nm where
  | l (i : Nat) | t (i : Nat) | b (i : Nat)
  deriving DecidableEq

def blk (c : Cx) (g : Gh) : Nm → Nat
  | .l i => g.loc i
  | .t i => g.tk i
  | .b i => c.bx i

def live (L : List (Option (List D))) (τ : List Bool) (B : List (List D)) : Nm → Prop
  | .l i => ∃ ds, L[i]? = some (some ds)
  | .t i => τ[i]? = some true
  | .b i => i < B.length

/-- None of the first n cells is frozen. -/
def nofr (fr : Nat × Nat) (n : Nat) : Prop := fr.1 ≤ fr.2 ∧ ∀ o, o < n → (decide (fr.1 ≤ o) && decide (o < fr.2)) = false

theorem nofr_zero (n : Nat) : nofr (0, 0) n := ⟨Nat.le_refl _, fun o _ => by simp⟩

/-- A block that holds these values, and may be written. -/
def BoxAt (R : D → Value → Prop) (s : Nat → Nat) (w : World) (k : Nat) (ds : List D) : Prop :=
  s k = 0 ∧ ∃ (cs : Array Value) (t : TypeId) (fr : Nat × Nat), w.heap[k]? = some (.cells cs t fr) ∧ nofr fr cs.size ∧ ∀ (j : Nat) (d : D), ds[j]? = some d → ∃ v : Value, cs[j]? = some v ∧ R d v

/-- The frame's own memory. -/
structure FS (c : Cx) (g : Gh) (L : List (Option (List D))) (τ : List Bool) (B : List (List D)) (w : World) : Prop where
  below : Below c.base c.w0 w
  entry : c.we.heap.size ≤ w.heap.size
  baseLe : c.base ≤ c.we.heap.size
  nB : B.length = c.nB
  zero : ∀ k, w.heap.size ≤ k → g.s k = 0
  frame : ∀ k, k < c.we.heap.size → (∀ b, b < c.nB → c.bx b ≠ k) → w.heap[k]? = c.we.heap[k]? ∧ g.s k = c.s0 k
  os : w.os = c.we.os
  tape : w.tape = c.we.tape
  output : w.output = c.we.output
  newL : ∀ i ds, L[i]? = some (some ds) → c.we.heap.size ≤ g.loc i
  newT : ∀ i, τ[i]? = some true → c.we.heap.size ≤ g.tk i
  newB : ∀ b, b < B.length → c.base ≤ c.bx b
  boxL : ∀ i ds, L[i]? = some (some ds) → BoxAt (RepF c g (dom L) τ.length w) g.s w (g.loc i) ds
  boxB : ∀ i ds, B[i]? = some ds → BoxAt (Rep c.bx g.s w) g.s w (c.bx i) ds
  tok : ∀ i, τ[i]? = some true → g.s (g.tk i) = g.en i ∧ ∃ (cs : Array Value) (t : TypeId), w.heap[g.tk i]? = some (.cells cs t (0, 0)) ∧ cs.size = g.bs i
  inj : ∀ x y, live L τ B x → live L τ B y → blk c g x = blk c g y → x = y

variable {c : Cx} {g : Gh} {L : List (Option (List D))} {τ : List Bool} {B : List (List D)} {w : World}

theorem FS.lt (h : FS c g L τ B w) {x : Nm} (hx : live L τ B x) : blk c g x < w.heap.size := by
  cases x with
  | l i => obtain ⟨ds, hd⟩ := hx; obtain ⟨_, cs, t, fr, hh, _⟩ := h.boxL i ds hd; exact (Array.getElem?_eq_some_iff.1 hh).1
  | t i => obtain ⟨_, cs, t, hh, _⟩ := h.tok i hx; exact (Array.getElem?_eq_some_iff.1 hh).1
  | b i => obtain ⟨_, cs, t, fr, hh, _⟩ := h.boxB i _ (List.getElem?_eq_getElem hx); exact (Array.getElem?_eq_some_iff.1 hh).1

theorem BoxAt.mono {R R' : D → Value → Prop} {s s' : Nat → Nat} {w w' : World} {k : Nat} {ds : List D} (h : BoxAt R s w k ds) (hr : ∀ d v, R d v → R' d v) (hs : s' k = s k)
    (hh : w'.heap[k]? = w.heap[k]?) : BoxAt R' s' w' k ds := by
  obtain ⟨h0, cs, t, fr, h1, h2, h3⟩ := h
  refine ⟨hs.trans h0, cs, t, fr, hh.trans h1, h2, fun j d hj => ?_⟩
  obtain ⟨v, hv, hrv⟩ := h3 j d hj
  exact ⟨v, hv, hr d v hrv⟩

/-- The world after a new block, and its number's stable cells. -/
def Gh.withS (g : Gh) (k n : Nat) : Gh := { g with s := fun q => if q = k then n else g.s q }

theorem ev_new (bx s s' : Nat → Nat) (w w' : World) (hs : ∀ k, k < w.heap.size → s' k = s k) (hh : ∀ k, k < w.heap.size → w'.heap[k]? = w.heap[k]?) : Ev bx s w bx s' w' := by
  refine ⟨fun _ => rfl, fun k hk => Nat.le_of_eq (hs k hk).symm, fun k o v _ hc => ?_⟩
  have hk : k < w.heap.size := World.block_lt_of_cell? w _ hc
  rw [World.cell?_of_block (w := w) (hh k hk)]; exact hc

/-- Nothing has changed but the tape. -/
theorem FS.same {w' : World} (h : FS c g L τ B w) (hh : w'.heap = w.heap) (ho : w'.os = w.os) (ht : w'.tape = w.tape) (hp : w'.output = w.output) :
    FS c g L τ B w' ∧ Gle c g (dom L) τ.length w g (dom L) τ.length w' := by
  have hg : Gle c g (dom L) τ.length w g (dom L) τ.length w' :=
    ⟨ev_new _ _ _ _ _ (fun _ _ => rfl) (fun _ _ => by rw [hh]), fun _ h => h, Nat.le_refl _, fun _ _ => rfl, fun _ _ => rfl, fun _ _ => rfl, fun _ _ => rfl, by rw [hh]; exact Nat.le_refl _⟩
  refine ⟨⟨⟨ho.trans h.below.os, ht.trans h.below.tape, hp.trans h.below.output, by rw [hh]; exact h.below.size, fun k hk => by rw [hh]; exact h.below.block k hk⟩,
    by rw [hh]; exact h.entry, h.baseLe, h.nB, fun k hk => h.zero k (by rw [hh] at hk; exact hk), fun k hk hb => by rw [hh]; exact h.frame k hk hb, ho.trans h.os, ht.trans h.tape, hp.trans h.output,
    h.newL, h.newT, h.newB, fun i ds hi => (h.boxL i ds hi).mono (fun _ _ hr => hr.mono hg) rfl (by rw [hh]), fun i ds hi => (h.boxB i ds hi).mono (fun _ _ hr => hr.mono hg.ev) rfl (by rw [hh]),
    fun i hi => ?_, h.inj⟩, hg⟩
  obtain ⟨h1, cs, t, h2, h3⟩ := h.tok i hi
  exact ⟨h1, cs, t, by rw [hh]; exact h2, h3⟩

/-- A new block, of which so many cells are stable from now on; and, it may be, a name for it. -/
theorem FS.alloc_stable (h : FS c g L τ B w) (cs : Array Value) (t : TypeId) (n : Nat) (fr : Nat × Nat := (0, 0)) :
    FS c (g.withS w.heap.size n) L τ B (w.alloc (.cells cs t fr)) ∧ Gle c g (dom L) τ.length w (g.withS w.heap.size n) (dom L) τ.length (w.alloc (.cells cs t fr)) := by
  have hold : ∀ k, k < w.heap.size → (w.alloc (.cells cs t fr)).heap[k]? = w.heap[k]? := fun k hk => Below.heap_alloc w _ k hk
  have hs : ∀ k, k < w.heap.size → (g.withS w.heap.size n).s k = g.s k := fun k hk => by simp [Gh.withS, Nat.ne_of_lt hk]
  have hg : Gle c g (dom L) τ.length w (g.withS w.heap.size n) (dom L) τ.length (w.alloc (.cells cs t fr)) :=
    ⟨ev_new _ _ _ _ _ hs hold, fun _ h => h, Nat.le_refl _, fun _ _ => rfl, fun _ _ => rfl, fun _ _ => rfl, fun _ _ => rfl, by simp⟩
  refine ⟨⟨h.below.alloc (Nat.le_trans h.baseLe h.entry) _, by have := h.entry; simp; omega, h.baseLe, h.nB, fun k hk => ?_, fun k hk hb => ?_, h.os, h.tape, h.output,
    h.newL, h.newT, h.newB, fun i ds hi => ?_, fun i ds hi => ?_, fun i hi => ?_, h.inj⟩, hg⟩
  · simp at hk
    have : k ≠ w.heap.size := by omega
    simp [Gh.withS, this]; exact h.zero k (by omega)
  · have hlt := Nat.lt_of_lt_of_le hk h.entry
    rw [hold k hlt, hs k hlt]; exact h.frame k hk hb
  · have hlt := h.lt (x := .l i) ⟨ds, hi⟩
    exact (h.boxL i ds hi).mono (fun _ _ hr => hr.mono hg) (hs _ hlt) (hold _ hlt)
  · have hlt := h.lt (x := .b i) (lt_of_get hi)
    exact (h.boxB i ds hi).mono (fun _ _ hr => hr.mono hg.ev) (hs _ hlt) (hold _ hlt)
  · have hlt := h.lt (x := .t i) hi
    obtain ⟨h1, cs', t', h2, h3⟩ := h.tok i hi
    exact ⟨(hs _ hlt).trans h1, cs', t', (hold _ hlt).trans h2, h3⟩

/-- A box more, by this number. -/
def ins (L : List (Option (List D))) (k : Nat) (ds : List D) : List (Option (List D)) := (L ++ List.replicate (k + 1 - L.length) (.none : Option (List D))).set k (some ds)

theorem ins_len (L : List (Option (List D))) (ds : List D) : ins L L.length ds = L ++ [some ds] := by
  unfold ins
  have : L.length + 1 - L.length = 1 := by omega
  rw [this]
  apply List.ext_getElem?
  intro i
  rw [List.getElem?_set]
  by_cases h : L.length = i
  · subst h; simp
  · rw [if_neg h]
    rcases Nat.lt_or_ge i L.length with hi | hi
    · rw [List.getElem?_append_left hi, List.getElem?_append_left hi]
    · rw [List.getElem?_append_right hi, List.getElem?_append_right hi]
      have : 1 ≤ i - L.length := by omega
      rw [List.getElem?_eq_none (by simpa using this), List.getElem?_eq_none (by simpa using this)]

theorem ins_get {L : List (Option (List D))} {k i : Nat} {ds es : List D} : (ins L k ds)[i]? = some (some es) ↔ (i = k ∧ es = ds) ∨ (i ≠ k ∧ L[i]? = some (some es)) := by
  unfold ins
  rw [List.getElem?_set]
  by_cases h : k = i
  · subst h
    have : k < (L ++ List.replicate (k + 1 - L.length) (.none : Option (List D))).length := by simp; omega
    rw [if_pos rfl, if_pos this]
    constructor
    · intro e; injection e with e; injection e with e; exact .inl ⟨rfl, e.symm⟩
    · rintro (⟨_, rfl⟩ | ⟨h, _⟩)
      · rfl
      · exact absurd rfl h
  · rw [if_neg h]
    have hne : i ≠ k := fun e => h e.symm
    rcases Nat.lt_or_ge i L.length with hi | hi
    · rw [List.getElem?_append_left hi]
      simp [hne]
    · rw [List.getElem?_append_right hi, List.getElem?_eq_none hi]
      simp only [hne, false_and, ne_eq, not_false_eq_true, true_and, false_or]
      constructor
      · intro e
        rw [List.getElem?_replicate] at e
        split at e <;> simp at e
      · intro e; cases e

theorem dom_ins {L : List (Option (List D))} {k i : Nat} {ds : List D} : dom (ins L k ds) i ↔ i = k ∨ dom L i := by
  constructor
  · rintro ⟨es, h⟩
    rcases ins_get.1 h with ⟨h, _⟩ | ⟨_, h⟩
    · exact .inl h
    · exact .inr ⟨es, h⟩
  · intro h
    by_cases hk : i = k
    · exact ⟨ds, ins_get.2 (.inl ⟨hk, rfl⟩)⟩
    · obtain ⟨es, hs⟩ := h.resolve_left hk
      exact ⟨es, ins_get.2 (.inr ⟨hk, hs⟩)⟩

theorem dom_new (L : List (Option (List D))) (ds : List D) : dom (L ++ [some ds]) L.length := by
  rw [← ins_len]; exact dom_ins.2 (.inl rfl)

theorem dom_lt {L : List (Option (List D))} {i : Nat} (h : dom L i) : i < L.length := by
  obtain ⟨_, h⟩ := h; exact (List.getElem?_eq_some_iff.1 h).1

theorem live_ins {k : Nat} {ds : List D} {x : Nm} (h : live (ins L k ds) τ B x) : live L τ B x ∨ x = .l k := by
  cases x with
  | l i =>
    obtain ⟨es, hd⟩ := h
    rcases ins_get.1 hd with ⟨h, _⟩ | ⟨_, h⟩
    · exact .inr (by rw [h])
    · exact .inl ⟨es, h⟩
  | t i => exact .inl h
  | b i => exact .inl h

theorem live_snoc_T {x : Nm} (h : live L (τ ++ [true]) B x) : live L τ B x ∨ x = .t τ.length := by
  cases x with
  | t i =>
    simp only [live] at h ⊢
    rcases Nat.lt_trichotomy i τ.length with hi | hi | hi
    · rw [List.getElem?_append_left hi] at h; exact .inl h
    · subst hi; exact .inr rfl
    · rw [List.getElem?_eq_none (by simp; omega)] at h; cases h
  | l i => exact .inl h
  | b i => exact .inl h

/-- A new block that is a box of the frame's own. -/
def Gh.newL (g : Gh) (i k : Nat) : Gh := { g with loc := fun q => if q = i then k else g.loc q }

theorem FS.alloc_at (h : FS c g L τ B w) (k : Nat) (hk : ¬ dom L k) (cs : Array Value) (t : TypeId) (fr : Nat × Nat) (ds : List D) (hfr : nofr fr cs.size)
    (hr : ∀ (j : Nat) (d : D), ds[j]? = some d → ∃ v : Value, cs[j]? = some v ∧ RepF c g (dom L) τ.length w d v) :
    FS c (g.newL k w.heap.size) (ins L k ds) τ B (w.alloc (.cells cs t fr)) ∧
      Gle c g (dom L) τ.length w (g.newL k w.heap.size) (dom (ins L k ds)) τ.length (w.alloc (.cells cs t fr)) := by
  have hold : ∀ q, q < w.heap.size → (w.alloc (.cells cs t fr)).heap[q]? = w.heap[q]? := fun q hq => Below.heap_alloc w _ q hq
  have hloc : ∀ i, dom L i → (g.newL k w.heap.size).loc i = g.loc i := fun i hi => by
    have : i ≠ k := fun e => hk (e ▸ hi)
    simp [Gh.newL, this]
  have hg : Gle c g (dom L) τ.length w (g.newL k w.heap.size) (dom (ins L k ds)) τ.length (w.alloc (.cells cs t fr)) :=
    ⟨ev_new _ _ _ _ _ (fun _ _ => rfl) hold, fun i hi => dom_ins.2 (.inr hi), Nat.le_refl _, hloc, fun _ _ => rfl, fun _ _ => rfl, fun _ _ => rfl, by simp⟩
  have hnew : (w.alloc (.cells cs t fr)).heap[w.heap.size]? = some (.cells cs t fr) := heap_alloc_new w _
  have hblk : ∀ x, live L τ B x → blk c (g.newL k w.heap.size) x = blk c g x := fun x hx => by
    cases x with
    | l i => exact hloc i hx
    | t i => rfl
    | b i => rfl
  have hbn : blk c (g.newL k w.heap.size) (.l k) = w.heap.size := by simp [blk, Gh.newL]
  refine ⟨⟨h.below.alloc (Nat.le_trans h.baseLe h.entry) _, by have := h.entry; simp; omega, h.baseLe, h.nB, fun q hq => h.zero q (by simp at hq; omega), fun q hq hb => ?_, h.os, h.tape, h.output,
    fun i es hi => ?_, h.newT, h.newB, fun i es hi => ?_, fun i es hi => ?_, fun i hi => ?_, fun x y hx hy he => ?_⟩, hg⟩
  · have hlt := Nat.lt_of_lt_of_le hq h.entry
    rw [hold q hlt]; exact h.frame q hq hb
  · rcases ins_get.1 hi with ⟨rfl, _⟩ | ⟨_, hi'⟩
    · show _ ≤ blk c _ (.l i)
      rw [hbn]; exact h.entry
    · rw [hloc i ⟨es, hi'⟩]; exact h.newL i es hi'
  · rcases ins_get.1 hi with ⟨rfl, rfl⟩ | ⟨_, hi'⟩
    · show BoxAt _ _ _ (blk c (g.newL i w.heap.size) (.l i)) _
      rw [hbn]
      refine ⟨h.zero _ (Nat.le_refl _), cs, t, fr, hnew, hfr, fun j d hj => ?_⟩
      obtain ⟨v, hv, hrv⟩ := hr j d hj
      exact ⟨v, hv, hrv.mono hg⟩
    · have hlt := h.lt (x := .l i) ⟨es, hi'⟩
      have hb := h.boxL i es hi'
      rw [hloc i ⟨es, hi'⟩]
      exact hb.mono (fun _ _ hr => hr.mono hg) rfl (hold _ hlt)
  · have hlt := h.lt (x := .b i) (lt_of_get hi)
    exact (h.boxB i es hi).mono (fun _ _ hr => hr.mono hg.ev) rfl (hold _ hlt)
  · have hlt := h.lt (x := .t i) hi
    obtain ⟨h1, cs', t', h2, h3⟩ := h.tok i hi
    exact ⟨h1, cs', t', (hold _ hlt).trans h2, h3⟩
  · rcases live_ins hx with hx | rfl <;> rcases live_ins hy with hy | rfl
    · rw [hblk x hx, hblk y hy] at he; exact h.inj x y hx hy he
    · rw [hblk x hx, hbn] at he; exact absurd he (Nat.ne_of_lt (h.lt hx))
    · rw [hblk y hy, hbn] at he; exact absurd he.symm (Nat.ne_of_lt (h.lt hy))
    · rfl

theorem FS.alloc_box (h : FS c g L τ B w) (cs : Array Value) (t : TypeId) (fr : Nat × Nat) (ds : List D) (hfr : nofr fr cs.size)
    (hr : ∀ (j : Nat) (d : D), ds[j]? = some d → ∃ v : Value, cs[j]? = some v ∧ RepF c g (dom L) τ.length w d v) :
    FS c (g.newL L.length w.heap.size) (L ++ [some ds]) τ B (w.alloc (.cells cs t fr)) ∧
      Gle c g (dom L) τ.length w (g.newL L.length w.heap.size) (dom (L ++ [some ds])) τ.length (w.alloc (.cells cs t fr)) := by
  have := h.alloc_at L.length (fun h => Nat.lt_irrefl _ (dom_lt h)) cs t fr ds hfr hr
  rwa [ins_len] at this

/-- A new block that is a row of the frame's own, to which it may append. -/
def Gh.newT (g : Gh) (i k e b : Nat) : Gh :=
  { g with tk := fun q => if q = i then k else g.tk q, en := fun q => if q = i then e else g.en q, bs := fun q => if q = i then b else g.bs q }

theorem FS.alloc_tok (h : FS c g L τ B w) (cs : Array Value) (t : TypeId) (n : Nat) :
    FS c ((g.withS w.heap.size n).newT τ.length w.heap.size n cs.size) L (τ ++ [true]) B (w.alloc (.cells cs t)) ∧
      Gle c g (dom L) τ.length w ((g.withS w.heap.size n).newT τ.length w.heap.size n cs.size) (dom L) (τ ++ [true]).length (w.alloc (.cells cs t)) := by
  obtain ⟨h1, hg1⟩ := h.alloc_stable cs t n
  have htk : ∀ i, i < τ.length → ((g.withS w.heap.size n).newT τ.length w.heap.size n cs.size).tk i = g.tk i := fun i hi => by simp [Gh.newT, Gh.withS, Nat.ne_of_lt hi]
  have hg : Gle c g (dom L) τ.length w ((g.withS w.heap.size n).newT τ.length w.heap.size n cs.size) (dom L) (τ ++ [true]).length (w.alloc (.cells cs t)) :=
    ⟨hg1.ev, fun _ h => h, by simp, fun _ _ => rfl, htk, fun i hi => by simp [Gh.newT, Gh.withS, Nat.ne_of_lt hi], fun i hi => by simp [Gh.newT, Gh.withS, Nat.ne_of_lt hi], hg1.size⟩
  have hg2 : Gle c (g.withS w.heap.size n) (dom L) τ.length (w.alloc (.cells cs t)) ((g.withS w.heap.size n).newT τ.length w.heap.size n cs.size) (dom L) (τ ++ [true]).length (w.alloc (.cells cs t)) :=
    ⟨Ev.refl _ _ _, fun _ h => h, by simp, fun _ _ => rfl, htk, fun i hi => by simp [Gh.newT, Nat.ne_of_lt hi], fun i hi => by simp [Gh.newT, Nat.ne_of_lt hi], Nat.le_refl _⟩
  have hblk : ∀ x, live L τ B x → blk c ((g.withS w.heap.size n).newT τ.length w.heap.size n cs.size) x = blk c g x := fun x hx => by
    cases x with
    | l i => rfl
    | t i => exact htk i (lt_of_get hx)
    | b i => rfl
  have hbn : blk c ((g.withS w.heap.size n).newT τ.length w.heap.size n cs.size) (.t τ.length) = w.heap.size := by simp [blk, Gh.newT]
  refine ⟨⟨h1.below, h1.entry, h1.baseLe, h1.nB, h1.zero, h1.frame, h1.os, h1.tape, h1.output, h1.newL, fun i hi => ?_, h1.newB, fun i ds hi => ?_, h1.boxB, fun i hi => ?_, fun x y hx hy he => ?_⟩, hg⟩
  · rcases live_snoc_T (L := L) (B := B) (x := .t i) hi with hi' | e
    · rw [htk i (lt_of_get hi')]; exact h.newT i hi'
    · injection e with e; subst e
      show _ ≤ blk c _ (.t τ.length)
      rw [hbn]; exact h.entry
  · exact (h1.boxL i ds hi).mono (fun _ _ hr => hr.mono hg2) rfl rfl
  · rcases live_snoc_T (L := L) (B := B) (x := .t i) hi with hi' | e
    · obtain ⟨a1, cs', t', a2, a3⟩ := h1.tok i hi'
      have hlt := lt_of_get hi'
      refine ⟨?_, cs', t', ?_, ?_⟩
      · rw [htk i hlt]; simp only [Gh.newT, Nat.ne_of_lt hlt, if_false]; exact a1
      · rw [htk i hlt]; exact a2
      · simp only [Gh.newT, Nat.ne_of_lt hlt, if_false]; exact a3
    · injection e with e; subst e
      refine ⟨?_, cs, t, ?_, ?_⟩
      · simp [Gh.newT, Gh.withS]
      · have := heap_alloc_new w (.cells cs t)
        simpa [Gh.newT] using this
      · simp [Gh.newT]
  · rcases live_snoc_T hx with hx | rfl <;> rcases live_snoc_T hy with hy | rfl
    · rw [hblk x hx, hblk y hy] at he; exact h.inj x y hx hy he
    · rw [hblk x hx, hbn] at he; exact absurd he (Nat.ne_of_lt (h.lt hx))
    · rw [hblk y hy, hbn] at he; exact absurd he.symm (Nat.ne_of_lt (h.lt hy))
    · rfl

end Go.Proofs.YtdmlojinmkcldaaDoor.V
