/-
What a call takes and hands back; the operation 'call'.
-/
import Derived.Test.YtdmlojinmkcldaaDoorVQ
namespace Go.Proofs.YtdmlojinmkcldaaDoor.V
set_option linter.unusedSimpArgs false
set_option linter.unusedVariables false
open Go Go.RowKit

variable {c : Cx} {g : Gh} {nL : Nat → Prop} {nT : Nat} {w : World}

/-- What a call handed back: 'ks': the blocks of its rows that are the caller's own from now on, from left to right. -/
inductive RepO (bx s : Nat → Nat) (w : World) : D → Value → List Nat → Prop
  | clean (d : D) (v : Value) (h : Rep bx s w d v) : RepO bx s w d v []
  | fresh (sz : Nat) (xs : List D) (k cap : Nat) (cs : Array Value) (t : TypeId) (h : Rep bx s w (.vec sz xs .none) (.slice (some ⟨k, 0, none⟩) xs.length cap)) (hs : s k = xs.length * sz)
      (hh : w.heap[k]? = some (.cells cs t (0, 0))) (hc : cs.size = cap * sz) : RepO bx s w (.vec sz xs .fresh) (.slice (some ⟨k, 0, none⟩) xs.length cap) [k]

/-- A list of results, one behind the other. -/
inductive RepOL (R : D → Value → List Nat → Prop) : List D → List Value → List Nat → Prop
  | nil : RepOL R [] [] []
  | cons (d : D) (v : Value) (ks : List Nat) (ds : List D) (vs : List Value) (ls : List Nat) (h : R d v ks) (hr : RepOL R ds vs ls) : RepOL R (d :: ds) (v :: vs) (ks ++ ls)

inductive RepC (bx s : Nat → Nat) (w : World) : D → Value → List Nat → Prop
  | one (d : D) (v : Value) (ks : List Nat) (h : RepO bx s w d v ks) : RepC bx s w d v ks
  | agg (ds : List D) (vs : List Value) (ks : List Nat) (h : RepOL (RepO bx s w) ds vs ks) : RepC bx s w (.agg ds) (.agg vs.toArray) ks

inductive RepR (bx s : Nat → Nat) (w : World) : D → Value → List Nat → Prop
  | one (d : D) (v : Value) (ks : List Nat) (h : RepC bx s w d v ks) : RepR bx s w d v ks
  | tuple (ds : List D) (vs : List Value) (ks : List Nat) (h : RepOL (RepC bx s w) ds vs ks) : RepR bx s w (.tuple ds) (.tuple vs.toArray) ks

/-- The frame of a call that begins here. -/
def Cx.at_ (c : Cx) (w : World) (s : Nat → Nat) : Cx := { c with we := w, s0 := s }

/-- What the callees of this interpreter do, the machine's do. -/
def CallOK (c : Cx) (C : Callees) : Prop :=
  ∀ f args B r B', C f args B = some (r, B') →
    (∃ fn, c.P.funcs[f]? = some fn ∧ (fn.name == "runtime.NumGoroutine") = false ∧ fn.body.isNone = false) ∧
    ∀ (w : World) (g : Gh) (vs : Array Value), FS (c.at_ w g.s) g [] [] B w → args.length = vs.size → (∀ (i : Nat) (d : D), args[i]? = some d → ∃ v : Value, vs[i]? = some v ∧ Rep c.bx g.s w d v) →
      Calls c.P f vs w fun e w' => ∃ v, e = .returned v ∧ ∃ (g' : Gh) (ks : List Nat), FS (c.at_ w g.s) g' [] [] B' w' ∧ RepR c.bx g'.s w' r v ks ∧ ks.Nodup ∧ ∀ k, k ∈ ks → w.heap.size ≤ k

/-- At a call's begin. -/
theorem FS.enter {L : List (Option (List D))} {τ : List Bool} {B : List (List D)} (h : FS c g L τ B w) (s : Nat → Nat) (h1 : ∀ k, g.s k ≤ s k) (h2 : ∀ k, w.heap.size ≤ k → s k = 0) (h3 : ∀ b, b < B.length → s (c.bx b) = 0) :
    FS (c.at_ w s) { g with s := s } [] [] B w := by
  have hev : Ev c.bx g.s w c.bx s w := ⟨fun _ => rfl, fun k _ => h1 k, fun _ _ _ _ hc => hc⟩
  refine ⟨h.below, Nat.le_refl _, Nat.le_trans h.baseLe h.entry, h.nB, h2, fun k _ _ => ⟨rfl, rfl⟩, rfl, rfl, rfl, fun i ds hi => (by simp at hi), fun i hi => (by simp at hi), h.newB, fun i ds hi => (by simp at hi), fun i ds hi => ?_, fun i hi => (by simp at hi), fun x y hx hy he => ?_⟩
  · exact (h.boxB i ds hi).mono (fun _ _ hr => hr.mono hev) (by rw [(h.boxB i ds hi).1]; exact h3 i (lt_of_get hi)) rfl
  · cases x with
    | l i => obtain ⟨ds, hd⟩ := hx; simp at hd
    | t i => simp [live] at hx
    | b i =>
      cases y with
      | l i => obtain ⟨ds, hd⟩ := hy; simp at hd
      | t i => simp [live] at hy
      | b j => exact h.inj (.b i) (.b j) hx hy he

/-- Behind a call. -/
theorem FS.after {L : List (Option (List D))} {τ : List Bool} {B B' : List (List D)} {w' : World} {s1 : Nat → Nat} {g' : Gh} (h : FS c g L τ B w) (h' : FS (c.at_ w s1) g' [] [] B' w')
    (s2 : Nat → Nat) (hs : ∀ k, k < w.heap.size → s2 k = g.s k) (hs0 : ∀ k, w'.heap.size ≤ k → s2 k = 0) (hB : ∀ i ds, B'[i]? = some ds → BoxAt (Rep c.bx s2 w') s2 w' (c.bx i) ds) :
    FS c { g with s := s2 } L τ B' w' ∧ Gle c g (dom L) τ.length w { g with s := s2 } (dom L) τ.length w' := by
  have hlen : B'.length = B.length := h'.nB.trans h.nB.symm
  have hsz : w.heap.size ≤ w'.heap.size := h'.entry
  have hfr : ∀ k, k < w.heap.size → (∀ b, b < c.nB → c.bx b ≠ k) → w'.heap[k]? = w.heap[k]? := fun k hk hb => (h'.frame k hk hb).1
  have hglob : ∀ x, live L τ B x → (∀ i, x ≠ .b i) → ∀ b, b < c.nB → c.bx b ≠ blk c g x := fun x hx hne b hb he => by
    have := h.inj (.b b) x (show b < B.length by rw [h.nB]; exact hb) hx he
    exact hne b this.symm
  have hev : Ev c.bx g.s w c.bx s2 w' := by
    refine ⟨fun _ => rfl, fun k hk => by rw [hs k hk]; exact Nat.le_refl _, fun k o v ho hc => ?_⟩
    have hk : k < w.heap.size := World.block_lt_of_cell? w _ hc
    by_cases hb : ∃ b, b < c.nB ∧ c.bx b = k
    · obtain ⟨b, hb, rfl⟩ := hb
      have hbl : b < B.length := by rw [h.nB]; exact hb
      have := (h.boxB b _ (List.getElem?_eq_getElem hbl)).1
      omega
    · rw [World.cell?_of_block (w := w) (hfr k hk (fun b hb' he => hb ⟨b, hb', he⟩))]; exact hc
  have hg : Gle c g (dom L) τ.length w { g with s := s2 } (dom L) τ.length w' := ⟨hev, fun _ h => h, Nat.le_refl _, fun _ _ => rfl, fun _ _ => rfl, fun _ _ => rfl, fun _ _ => rfl, hsz⟩
  refine ⟨⟨h'.below, Nat.le_trans h.entry hsz, h.baseLe, h'.nB, fun k hk => ?_, fun k hk hb => ?_, h'.os.trans h.os, h'.tape.trans h.tape, h'.output.trans h.output, h.newL, h.newT, fun b hb => h.newB b (by omega), fun i ds hi => ?_, hB, fun i hi => ?_, fun x y hx hy he => ?_⟩, hg⟩
  · exact hs0 k hk
  · have hlt := Nat.lt_of_lt_of_le hk h.entry
    refine ⟨(hfr k hlt hb).trans (h.frame k hk hb).1, ?_⟩
    show s2 k = _
    rw [hs k hlt]; exact (h.frame k hk hb).2
  · have hlt := h.lt (x := .l i) ⟨ds, hi⟩
    have hne := hglob (.l i) ⟨ds, hi⟩ (fun j e => by cases e)
    exact (h.boxL i ds hi).mono (fun _ _ hr => hr.mono hg) (by show s2 (g.loc i) = _; exact hs _ (show g.loc i < _ from hlt)) (hfr _ hlt hne)
  · have hlt := h.lt (x := .t i) hi
    have hne := hglob (.t i) hi (fun j e => by cases e)
    obtain ⟨h1, cs, t, h2, h3⟩ := h.tok i hi
    exact ⟨by show s2 (g.tk i) = _; rw [hs _ (show g.tk i < _ from hlt)]; exact h1, cs, t, (hfr _ hlt hne).trans h2, h3⟩
  · have hl : ∀ x, live L τ B' x → live L τ B x := fun x hx => by cases x <;> first | exact hx | (simp only [live, hlen] at hx; exact hx)
    exact h.inj x y (hl x hx) (hl y hy) he

/-- A row that a call handed back is this frame's own from now on. -/
theorem FS.adopt {L : List (Option (List D))} {τ : List Bool} {B : List (List D)} (h : FS c g L τ B w) (k n b : Nat) (hk : c.we.heap.size ≤ k) (hs : g.s k = n) (hh : ∃ (cs : Array Value) (t : TypeId), w.heap[k]? = some (.cells cs t (0, 0)) ∧ cs.size = b)
    (hne : ∀ x, live L τ B x → blk c g x ≠ k) :
    FS c (g.newT τ.length k n b) L (τ ++ [true]) B w ∧ Gle c g (dom L) τ.length w (g.newT τ.length k n b) (dom L) (τ ++ [true]).length w := by
  have htk : ∀ i, i < τ.length → (g.newT τ.length k n b).tk i = g.tk i := fun i hi => by simp [Gh.newT, Nat.ne_of_lt hi]
  have hg : Gle c g (dom L) τ.length w (g.newT τ.length k n b) (dom L) (τ ++ [true]).length w :=
    ⟨Ev.refl _ _ _, fun _ h => h, by simp, fun _ _ => rfl, htk, fun i hi => by simp [Gh.newT, Nat.ne_of_lt hi], fun i hi => by simp [Gh.newT, Nat.ne_of_lt hi], Nat.le_refl _⟩
  have hblk : ∀ x, live L τ B x → blk c (g.newT τ.length k n b) x = blk c g x := fun x hx => by
    cases x with
    | l i => rfl
    | t i => exact htk i (lt_of_get hx)
    | b i => rfl
  have hbn : blk c (g.newT τ.length k n b) (.t τ.length) = k := by simp [blk, Gh.newT]
  refine ⟨⟨h.below, h.entry, h.baseLe, h.nB, h.zero, h.frame, h.os, h.tape, h.output, h.newL, fun i hi => ?_, h.newB, fun i ds hi => ?_, h.boxB, fun i hi => ?_, fun x y hx hy he => ?_⟩, hg⟩
  · rcases live_snoc_T (L := L) (B := B) (x := .t i) hi with hi' | e
    · rw [htk i (lt_of_get hi')]; exact h.newT i hi'
    · injection e with e; subst e
      show _ ≤ blk c _ (.t τ.length)
      rw [hbn]; exact hk
  · exact (h.boxL i ds hi).mono (fun _ _ hr => hr.mono hg) rfl rfl
  · rcases live_snoc_T (L := L) (B := B) (x := .t i) hi with hi' | e
    · obtain ⟨a1, cs', t', a2, a3⟩ := h.tok i hi'
      have hlt := lt_of_get hi'
      refine ⟨?_, cs', t', ?_, ?_⟩
      · rw [htk i hlt]; simp only [Gh.newT, Nat.ne_of_lt hlt, if_false]; exact a1
      · rw [htk i hlt]; exact a2
      · simp only [Gh.newT, Nat.ne_of_lt hlt, if_false]; exact a3
    · injection e with e; subst e
      obtain ⟨cs, t, h1, h2⟩ := hh
      refine ⟨?_, cs, t, ?_, ?_⟩
      · simp [Gh.newT]; exact hs
      · simpa [Gh.newT] using h1
      · simp [Gh.newT, h2]
  · rcases live_snoc_T hx with hx | rfl <;> rcases live_snoc_T hy with hy | rfl
    · rw [hblk x hx, hblk y hy] at he; exact h.inj x y hx hy he
    · rw [hblk x hx, hbn] at he; exact absurd he (hne x hx)
    · rw [hblk y hy, hbn] at he; exact absurd he.symm (hne y hy)
    · rfl

/-- A row that a call handed back is a box of this frame's own from now on. -/
theorem FS.lodge {L : List (Option (List D))} {τ : List Bool} {B : List (List D)} (h : FS c g L τ B w) (k : Nat) (xs : List D) (hk : c.we.heap.size ≤ k) (hb : BoxAt (RepF c g (dom L) τ.length w) g.s w k xs)
    (hne : ∀ x, live L τ B x → blk c g x ≠ k) :
    FS c (g.newL L.length k) (L ++ [some xs]) τ B w ∧ Gle c g (dom L) τ.length w (g.newL L.length k) (dom (L ++ [some xs])) τ.length w := by
  have hnd : ¬ dom L L.length := fun h => Nat.lt_irrefl _ (dom_lt h)
  rw [← ins_len]
  have hloc : ∀ i, dom L i → (g.newL L.length k).loc i = g.loc i := fun i hi => by
    have : i ≠ L.length := fun e => hnd (e ▸ hi)
    simp [Gh.newL, this]
  have hg : Gle c g (dom L) τ.length w (g.newL L.length k) (dom (ins L L.length xs)) τ.length w :=
    ⟨Ev.refl _ _ _, fun i hi => dom_ins.2 (.inr hi), Nat.le_refl _, hloc, fun _ _ => rfl, fun _ _ => rfl, fun _ _ => rfl, Nat.le_refl _⟩
  have hblk : ∀ x, live L τ B x → blk c (g.newL L.length k) x = blk c g x := fun x hx => by
    cases x with
    | l i => exact hloc i hx
    | t i => rfl
    | b i => rfl
  have hbn : blk c (g.newL L.length k) (.l L.length) = k := by simp [blk, Gh.newL]
  refine ⟨⟨h.below, h.entry, h.baseLe, h.nB, h.zero, h.frame, h.os, h.tape, h.output,
    fun i es hi => ?_, h.newT, h.newB, fun i es hi => ?_, h.boxB, h.tok, fun x y hx hy he => ?_⟩, hg⟩
  · rcases ins_get.1 hi with ⟨rfl, _⟩ | ⟨_, hi'⟩
    · show _ ≤ blk c _ (.l L.length)
      rw [hbn]; exact hk
    · rw [hloc i ⟨es, hi'⟩]; exact h.newL i es hi'
  · rcases ins_get.1 hi with ⟨rfl, rfl⟩ | ⟨_, hi'⟩
    · show BoxAt _ _ _ (blk c (g.newL L.length k) (.l L.length)) _
      rw [hbn]
      exact hb.mono (fun _ _ hr => hr.mono hg) rfl rfl
    · rw [hloc i ⟨es, hi'⟩]
      exact (h.boxL i es hi').mono (fun _ _ hr => hr.mono hg) rfl rfl
  · rcases live_ins hx with hx | rfl <;> rcases live_ins hy with hy | rfl
    · rw [hblk x hx, hblk y hy] at he; exact h.inj x y hx hy he
    · rw [hblk x hx, hbn] at he; exact absurd he (hne x hx)
    · rw [hblk y hy, hbn] at he; exact absurd he.symm (hne y hy)
    · rfl

/-- Of the rows handed back: none is live yet. -/
def Apart (c : Cx) (g : Gh) (L : List (Option (List D))) (τ : List Bool) (B : List (List D)) (ks : List Nat) : Prop :=
  ks.Nodup ∧ (∀ k, k ∈ ks → c.we.heap.size ≤ k) ∧ ∀ x, live L τ B x → blk c g x ∉ ks

theorem adopt_one {L : List (Option (List D))} {τ : List Bool} {B : List (List D)} {d : D} {v : Value} {ks ls : List Nat} (h : FS c g L τ B w) (hr : RepO c.bx g.s w d v ks) (ha : Apart c g L τ B (ks ++ ls)) :
    ∃ g', FS c g' L (adopt τ d).2 B w ∧ Gle c g (dom L) τ.length w g' (dom L) (adopt τ d).2.length w ∧ g'.s = g.s ∧ RepF c g' (dom L) (adopt τ d).2.length w (adopt τ d).1 v ∧ Apart c g' L (adopt τ d).2 B ls := by
  cases hr with
  | clean _ _ hr =>
    have e : adopt τ d = (d, τ) := by
      cases hr with
      | vec sz xs p a cap vs hp => rcases hp with rfl | ⟨rfl, _⟩ <;> rfl
      | _ => rfl
    rw [e]
    exact ⟨g, h, Gle.refl _ _ _ _ _, rfl, .clean _ _ hr, by simpa using ha⟩
  | fresh sz xs k cap cs t hr hs hh hc =>
    obtain ⟨a1, a2, a3⟩ := ha
    have hk : k ∉ ls := (List.nodup_cons.1 a1).1
    obtain ⟨b1, b2⟩ := h.adopt k (xs.length * sz) (cap * sz) (a2 k (by simp)) hs ⟨cs, t, hh, hc⟩ (fun x hx he => a3 x hx (by rw [he]; simp))
    refine ⟨_, b1, b2, rfl, ?_, (List.nodup_cons.1 a1).2, fun q hq => a2 q (by simp [hq]), fun x hx => ?_⟩
    · have htk : (g.newT τ.length k (xs.length * sz) (cap * sz)).tk τ.length = k := by simp [Gh.newT]
      have := RepF.own (c := c) (g := g.newT τ.length k (xs.length * sz) (cap * sz)) (nL := dom L) (nT := (τ ++ [true]).length) (w := w) τ.length sz xs cap (by simp) (by rw [htk]; exact hr) (by simp [Gh.newT]) (by simp [Gh.newT])
      rw [htk] at this; exact this
    · rcases live_snoc_T hx with hx | rfl
      · have : blk c (g.newT τ.length k (xs.length * sz) (cap * sz)) x = blk c g x := by
          cases x with
          | l i => rfl
          | t i => simp [blk, Gh.newT, Nat.ne_of_lt (lt_of_get hx)]
          | b i => rfl
        rw [this]; exact fun hm => a3 x hx (by simp [hm])
      · have : blk c (g.newT τ.length k (xs.length * sz) (cap * sz)) (.t τ.length) = k := by simp [blk, Gh.newT]
        rw [this]; exact hk

end Go.Proofs.YtdmlojinmkcldaaDoor.V
