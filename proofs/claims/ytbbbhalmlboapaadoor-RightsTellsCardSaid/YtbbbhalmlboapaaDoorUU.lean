import Derived.Test.YtbbbhalmlboapaaDoorUQ
/-
What a call takes and hands back; the operation 'call'.
-/
namespace Go.Proofs.YtbbbhalmlboapaaDoor.V
set_option linter.unusedSimpArgs false
set_option linter.unusedVariables false
open Go Go.RowKit

variable {c : Cx} {g : Gh} {nL : Nat → Prop} {nT : Nat} {w : World}

/-- What a call handed back: 'ks': the blocks of its rows that are the caller's own from now on, from left to right. -/
inductive RepO (bx : List Nat) (s : Nat → Nat) (w : World) : D → Value → List Nat → Prop
  | clean (d : D) (v : Value) (h : Rep bx s w d v) : RepO bx s w d v []
  | fresh (sz : Nat) (xs : List D) (k cap : Nat) (cs : Array Value) (t : TypeId) (h : Rep bx s w (.vec sz xs .none) (.slice (some ⟨k, 0, none⟩) xs.length cap)) (hs : s k = xs.length * sz)
      (hh : w.heap[k]? = some (.cells cs t (0, 0))) (hc : cs.size = cap * sz) : RepO bx s w (.vec sz xs .fresh) (.slice (some ⟨k, 0, none⟩) xs.length cap) [k]
  | tight (sz : Nat) (v : Value) (h : Rep bx s w (.vec sz [] .exact) v) : RepO bx s w (.vec sz [] .fresh) v []
  | box (sz : Nat) (xs : List D) (k cap : Nat) (cs : Array Value) (t : TypeId) (fr : Nat × Nat) (h : Rep bx s w (.vec sz xs .none) (.slice (some ⟨k, 0, none⟩) xs.length cap))
      (hh : w.heap[k]? = some (.cells cs t fr)) (hn : nofr fr cs.size) : RepO bx s w (.vec sz xs .box) (.slice (some ⟨k, 0, none⟩) xs.length cap) [k]

/-- A list of results, one behind the other. -/
inductive RepOL (R : D → Value → List Nat → Prop) : List D → List Value → List Nat → Prop
  | nil : RepOL R [] [] []
  | cons (d : D) (v : Value) (ks : List Nat) (ds : List D) (vs : List Value) (ls : List Nat) (h : R d v ks) (hr : RepOL R ds vs ls) : RepOL R (d :: ds) (v :: vs) (ks ++ ls)

inductive RepC (bx : List Nat) (s : Nat → Nat) (w : World) : D → Value → List Nat → Prop
  | one (d : D) (v : Value) (ks : List Nat) (h : RepO bx s w d v ks) : RepC bx s w d v ks
  | agg (ds : List D) (vs : List Value) (ks : List Nat) (h : RepOL (RepO bx s w) ds vs ks) : RepC bx s w (.agg ds) (.agg vs.toArray) ks

inductive RepR (bx : List Nat) (s : Nat → Nat) (w : World) : D → Value → List Nat → Prop
  | one (d : D) (v : Value) (ks : List Nat) (h : RepC bx s w d v ks) : RepR bx s w d v ks
  | tuple (ds : List D) (vs : List Value) (ks : List Nat) (h : RepOL (RepC bx s w) ds vs ks) : RepR bx s w (.tuple ds) (.tuple vs.toArray) ks

/-- The frame of a call that begins here: ks: the rows that it is handed. -/
def Cx.at_ (c : Cx) (w : World) (g : Gh) (ks : List Nat) : Cx := { c with we := w, s0 := g.s, bx := g.bx, mv := ks }

/-- What the callees of this interpreter do, the machine's do. -/
def CallOK (c : Cx) (C : Callees) : Prop :=
  ∀ f args B r B', C f args B = some (r, B') →
    (∃ fn, c.P.funcs[f]? = some fn ∧ (fn.name == "runtime.NumGoroutine") = false ∧ fn.body.isNone = false) ∧
    ∀ (w : World) (g : Gh) (vs : List Value) (ks : List Nat), FS (c.at_ w g ks) g [] [] B w → RepOL (RepC g.bx g.s w) args vs ks → ks.Nodup → (∀ k, k ∈ ks → k ∉ g.bx) →
      Calls c.P f vs.toArray w fun e w' => ∃ v, e = .returned v ∧ ∃ (g' : Gh) (ls : List Nat), FS (c.at_ w g ks) g' [] [] B' w' ∧ RepR g'.bx g'.s w' r v ls ∧ ls.Nodup ∧ ∀ k, k ∈ ls → (w.heap.size ≤ k ∨ k ∈ ks) ∧ k ∉ g'.bx

/-- At a call's begin. -/
theorem FS.enter {L : List (Option (List D))} {τ : List Bool} {B : List (List D)} (h : FS c g L τ B w) (s : Nat → Nat) (ks : List Nat) (h1 : ∀ k, g.s k ≤ s k) (h2 : ∀ k, w.heap.size ≤ k → s k = 0) (h3 : ∀ (b k : Nat), g.bx[b]? = some k → s k = 0)
    (hks : ∀ k, k ∈ ks → c.base ≤ k ∧ k < w.heap.size) :
    FS (c.at_ w { g with s := s } ks) { g with s := s } [] [] B w := by
  have hev : Ev g.bx g.s w g.bx s w := ⟨fun _ _ h => h, fun k _ => h1 k, fun _ _ _ _ hc => hc⟩
  refine ⟨h.below, Nat.le_refl _, Nat.le_trans h.baseLe h.entry, h.nB, fun _ _ h => h, h2, fun k _ _ _ => ⟨rfl, rfl⟩, rfl, rfl, rfl, fun i ds hi => (by simp at hi), fun i hi => (by simp at hi), fun b k hb => .inr (List.mem_of_getElem? hb), fun k hk => ?_, fun k hk => ⟨(hks k hk).2, Nat.le_refl _, fun _ _ _ h => h⟩, fun i ds hi => (by simp at hi), fun i ds k hi hk => ?_, fun i hi => (by simp at hi), fun x y hx hy he => ?_⟩
  · rcases hk with hk | hk
    · obtain ⟨b, hb⟩ := List.getElem?_of_mem hk
      exact h.baseB hb
    · exact (hks k hk).1
  · exact (h.boxB i ds k hi hk).mono (fun _ _ hr => hr.mono hev) (by rw [(h.boxB i ds k hi hk).1]; exact h3 i k hk) rfl
  · cases x with
    | l i => obtain ⟨ds, hd⟩ := hx; simp at hd
    | t i => simp [live] at hx
    | b i =>
      cases y with
      | l i => obtain ⟨ds, hd⟩ := hy; simp at hd
      | t i => simp [live] at hy
      | b j => exact h.inj (.b i) (.b j) hx hy he

/-- Behind a call. -/
theorem FS.after {L : List (Option (List D))} {τ : List Bool} {B B' : List (List D)} {w' : World} {s1 : Nat → Nat} {g' : Gh} {ks : List Nat} (h : FS c g L τ B w) (h' : FS (c.at_ w { g with s := s1 } ks) g' [] [] B' w') (h1 : ∀ k, k ∈ ks → s1 k = g.s k)
    (hk0 : ∀ k, k ∈ ks → c.we.heap.size ≤ k ∨ k ∈ c.mv) (hkl : ∀ x, live g L τ x → blk g x ∉ ks)
    (s2 : Nat → Nat) (hs : ∀ k, k < w.heap.size → k ∉ ks → s2 k = g.s k) (hsk : ∀ k, k ∈ ks → s2 k = g'.s k) (hs0 : ∀ k, w'.heap.size ≤ k → s2 k = 0) (hB : ∀ (i : Nat) ds k, B'[i]? = some ds → g'.bx[i]? = some k → BoxAt (Rep g'.bx s2 w') s2 w' k ds) :
    FS c { g with s := s2, bx := g'.bx } L τ B' w' ∧ Gle c g (dom L) τ.length w { g with s := s2, bx := g'.bx } (dom L) τ.length w' := by
  have hsz : w.heap.size ≤ w'.heap.size := h'.entry
  have hpre : ∀ (b k : Nat), g.bx[b]? = some k → g'.bx[b]? = some k := h'.pre
  have hfr : ∀ k, k < w.heap.size → k ∉ g.bx → k ∉ ks → w'.heap[k]? = w.heap[k]? := fun k hk hb hm => (h'.frame k hk hb hm).1
  have hev : Ev g.bx g.s w g'.bx s2 w' := by
    refine ⟨hpre, fun k hk => ?_, fun k o v ho hc => ?_⟩
    · by_cases hm : k ∈ ks
      · obtain ⟨_, a2, _⟩ := h'.mvS k hm
        rw [hsk k hm, ← h1 k hm]; exact a2
      · rw [hs k hk hm]; exact Nat.le_refl _
    · have hk : k < w.heap.size := World.block_lt_of_cell? w _ hc
      by_cases hm : k ∈ ks
      · obtain ⟨_, _, a3⟩ := h'.mvS k hm
        exact a3 o v (by show o < s1 k; rw [h1 k hm]; exact ho) hc
      · by_cases hb : k ∈ g.bx
        · obtain ⟨b, hb⟩ := List.getElem?_of_mem hb
          obtain ⟨ds, _, h0, _⟩ := h.boxAt hb
          omega
        · rw [World.cell?_of_block (w := w) (hfr k hk hb hm)]; exact hc
  have hg : Gle c g (dom L) τ.length w { g with s := s2, bx := g'.bx } (dom L) τ.length w' := ⟨hev, fun _ h => h, Nat.le_refl _, fun _ _ => rfl, fun _ _ => rfl, fun _ _ => rfl, fun _ _ => rfl, fun _ _ => rfl, hsz⟩
  have hnb : ∀ x, live g L τ x → (∀ i, x ≠ .b i) → blk g x ∉ g.bx := fun x hx hne hm => by
    obtain ⟨b, hb⟩ := List.getElem?_of_mem hm
    exact hne b (h.inj x (.b b) hx (lt_of_get hb) (bx_getD hb).symm)
  have hlive : ∀ x, live { g with s := s2, bx := g'.bx } L τ x → (live g L τ x ∧ blk { g with s := s2, bx := g'.bx } x = blk g x) ∨ ∃ i, x = .b i ∧ i < g'.bx.length ∧ w.heap.size ≤ blk { g with s := s2, bx := g'.bx } x := fun x hx => by
    cases x with
    | l i => exact .inl ⟨hx, rfl⟩
    | t i => exact .inl ⟨hx, rfl⟩
    | b i =>
      have hx : i < g'.bx.length := hx
      rcases Nat.lt_or_ge i g.bx.length with hi | hi
      · refine .inl ⟨hi, ?_⟩
        have := hpre i _ (bx_get hi)
        exact bx_getD this
      · refine .inr ⟨i, rfl, hx, ?_⟩
        have hk := bx_get hx
        rcases h'.newB i _ hk with h1 | h1
        · exact h1
        · exfalso
          obtain ⟨b, hb⟩ := List.getElem?_of_mem (show g'.bx.getD i 0 ∈ g.bx from h1)
          have hb' := hpre b _ hb
          have := h'.inj (.b i) (.b b) hx (lt_of_get hb') (bx_getD hb').symm
          injection this with this
          have := lt_of_get hb
          omega
  refine ⟨⟨h'.below, Nat.le_trans h.entry hsz, h.baseLe, h'.nB, fun b k hb => hpre b k (h.pre b k hb), hs0, fun k hk hb hm => ?_, h'.os.trans h.os, h'.tape.trans h.tape, h'.output.trans h.output, h.newL, h.newT, fun b k hb => ?_, h.old, h.mvS.gle hg, fun i ds hi => ?_, hB, fun i hi hw => ?_, fun x y hx hy he => ?_⟩, hg⟩
  · have hlt := Nat.lt_of_lt_of_le hk h.entry
    have hkn : k ∉ ks := fun hm' => by rcases hk0 k hm' with h1 | h1; omega; exact hm h1
    have hbn : k ∉ g.bx := fun hb' => by
      obtain ⟨b, hb2⟩ := List.getElem?_of_mem hb'
      rcases h.newB b k hb2 with h1 | h1
      · omega
      · exact hb h1
    refine ⟨(hfr k hlt hbn hkn).trans (h.frame k hk hb hm).1, ?_⟩
    show s2 k = _
    rw [hs k hlt hkn]; exact (h.frame k hk hb hm).2
  · rcases h'.newB b k hb with h1 | h1
    · exact .inl (Nat.le_trans h.entry h1)
    · obtain ⟨b2, hb2⟩ := List.getElem?_of_mem (show k ∈ g.bx from h1)
      exact h.newB b2 k hb2
  · have hx : live g L τ (.l i) := ⟨ds, hi⟩
    have hlt := h.lt hx
    have h2 := hnb _ hx (fun j e => by cases e)
    have h3 := hkl _ hx
    exact (h.boxL i ds hi).mono (fun _ _ hr => hr.mono hg) (hs _ hlt h3) (hfr _ hlt h2 h3)
  · have hx : live g L τ (.t i) := ⟨hi, hw⟩
    have hlt := h.lt hx
    have h2 := hnb _ hx (fun j e => by cases e)
    have h3 := hkl _ hx
    obtain ⟨b1, cs, t, b2, b3⟩ := h.tok i hi hw
    exact ⟨(hs _ hlt h3).trans b1, cs, t, (hfr _ hlt h2 h3).trans b2, b3⟩
  · rcases hlive x hx with ⟨a1, a2⟩ | ⟨i, rfl, a1, a2⟩ <;> rcases hlive y hy with ⟨b1, b2⟩ | ⟨j, rfl, b1, b2⟩
    · rw [a2, b2] at he; exact h.inj x y a1 b1 he
    · rw [a2] at he; have := h.lt a1; omega
    · rw [b2] at he; have := h.lt b1; omega
    · exact h'.inj (.b i) (.b j) a1 b1 he

/-- A row that a call handed back is a box of this frame's own from now on. -/
theorem FS.lodge {L : List (Option (List D))} {τ : List Bool} {B : List (List D)} (h : FS c g L τ B w) (k : Nat) (xs : List D) (hk : c.we.heap.size ≤ k ∨ k ∈ c.mv) (hb : BoxAt (RepF c g (dom L) τ.length w) g.s w k xs)
    (hne : ∀ x, live g L τ x → blk g x ≠ k) :
    FS c (g.newL L.length k) (L ++ [some xs]) τ B w ∧ Gle c g (dom L) τ.length w (g.newL L.length k) (dom (L ++ [some xs])) τ.length w := by
  have hnd : ¬ dom L L.length := fun h => Nat.lt_irrefl _ (dom_lt h)
  rw [← ins_len]
  have hloc : ∀ i, dom L i → (g.newL L.length k).loc i = g.loc i := fun i hi => by
    have : i ≠ L.length := fun e => hnd (e ▸ hi)
    simp [Gh.newL, this]
  have hg : Gle c g (dom L) τ.length w (g.newL L.length k) (dom (ins L L.length xs)) τ.length w :=
    ⟨Ev.refl _ _ _, fun i hi => dom_ins.2 (.inr hi), Nat.le_refl _, hloc, fun _ _ => rfl, fun _ _ => rfl, fun _ _ => rfl, fun _ _ => rfl, Nat.le_refl _⟩
  have hblk : ∀ x, live g L τ x → blk (g.newL L.length k) x = blk g x := fun x hx => by
    cases x with
    | l i => exact hloc i hx
    | t i => rfl
    | b i => rfl
  have hbn : blk (g.newL L.length k) (.l L.length) = k := by simp [blk, Gh.newL]
  have hlive : ∀ x, live (g.newL L.length k) (ins L L.length xs) τ x → live g L τ x ∨ x = .l L.length := fun x hx => live_ins (g := g) (by cases x <;> exact hx)
  refine ⟨⟨h.below, h.entry, h.baseLe, h.nB, h.pre, h.zero, h.frame, h.os, h.tape, h.output,
    fun i es hi => ?_, h.newT, h.newB, h.old, h.mvS.gle hg, fun i es hi => ?_, h.boxB, h.tok, fun x y hx hy he => ?_⟩, hg⟩
  · rcases ins_get.1 hi with ⟨rfl, _⟩ | ⟨_, hi'⟩
    · show _ ≤ blk _ (.l L.length) ∨ blk _ (.l L.length) ∈ _
      rw [hbn]; exact hk
    · rw [hloc i ⟨es, hi'⟩]; exact h.newL i es hi'
  · rcases ins_get.1 hi with ⟨rfl, rfl⟩ | ⟨_, hi'⟩
    · show BoxAt _ _ _ (blk (g.newL L.length k) (.l L.length)) _
      rw [hbn]
      exact hb.mono (fun _ _ hr => hr.mono hg) rfl rfl
    · rw [hloc i ⟨es, hi'⟩]
      exact (h.boxL i es hi').mono (fun _ _ hr => hr.mono hg) rfl rfl
  · rcases hlive x hx with hx | rfl <;> rcases hlive y hy with hy | rfl
    · rw [hblk x hx, hblk y hy] at he; exact h.inj x y hx hy he
    · rw [hblk x hx, hbn] at he; exact absurd he (hne x hx)
    · rw [hblk y hy, hbn] at he; exact absurd he.symm (hne y hy)
    · rfl

/-- Of the rows handed back: none is live yet. -/
def Apart (c : Cx) (g : Gh) (L : List (Option (List D))) (τ : List Bool) (ks : List Nat) : Prop :=
  ks.Nodup ∧ (∀ k, k ∈ ks → c.we.heap.size ≤ k ∨ k ∈ c.mv) ∧ ∀ x, live g L τ x → blk g x ∉ ks

theorem adopt_one {L : List (Option (List D))} {τ : List Bool} {B : List (List D)} {d : D} {v : Value} {ks ls : List Nat} (h : FS c g L τ B w) (hr : RepO g.bx g.s w d v ks) (ha : Apart c g L τ (ks ++ ls)) :
    ∃ g', FS c g' L (adopt τ d).2 B w ∧ Gle c g (dom L) τ.length w g' (dom L) (adopt τ d).2.length w ∧ (g'.s = g.s ∧ g'.bx = g.bx) ∧ RepF c g' (dom L) (adopt τ d).2.length w (adopt τ d).1 v ∧ Apart c g' L (adopt τ d).2 ls := by
  cases hr with
  | clean _ _ hr =>
    have e : adopt τ d = (d, τ) := by
      cases hr with
      | nilv _ _ hp => rcases hp with rfl | rfl <;> rfl
      | vec sz xs p a cap vs hp => rcases hp with rfl | ⟨rfl, _⟩ | rfl <;> rfl
      | _ => rfl
    rw [e]
    exact ⟨g, h, Gle.refl _ _ _ _ _, ⟨rfl, rfl⟩, .clean _ _ hr, by simpa using ha⟩
  | box sz xs k cap cs t fr hr hh hn =>
    obtain ⟨a1, a2, a3⟩ := ha
    exact ⟨g, h, Gle.refl _ _ _ _ _, ⟨rfl, rfl⟩, .clean _ _ hr, (List.nodup_cons.1 a1).2, fun q hq => a2 q (by simp [hq]), fun x hx hm => a3 x hx (by simp only [List.mem_append]; exact .inr hm)⟩
  | tight sz _ hr =>
    obtain ⟨b1, b2⟩ := h.name
    obtain ⟨a1, a2, a3⟩ := ha
    refine ⟨_, b1, b2, ⟨rfl, rfl⟩, .tight _ _ _ (by simp [adopt]) hr, a1, a2, fun x hx => ?_⟩
    cases x with
    | l i => exact a3 (.l i) hx
    | b i => exact a3 (.b i) hx
    | t i =>
      obtain ⟨c1, c2⟩ := hx
      rcases tok_snoc c1 with hi | rfl
      · have hlt := lt_of_get hi
        simp only [Gh.newT, Nat.ne_of_lt hlt, if_false] at c2
        have := a3 (.t i) ⟨hi, c2⟩
        simpa [blk, Gh.newT, Nat.ne_of_lt hlt] using this
      · simp [Gh.newT] at c2
  | fresh sz xs k cap cs t hr hs hh hc =>
    obtain ⟨a1, a2, a3⟩ := ha
    have hk : k ∉ ls := (List.nodup_cons.1 a1).1
    obtain ⟨b1, b2⟩ := h.adopt k (xs.length * sz) (cap * sz) (a2 k (by simp)) hs ⟨cs, t, hh, hc⟩ (fun x hx he => a3 x hx (by rw [he]; simp))
    refine ⟨_, b1, b2, ⟨rfl, rfl⟩, ?_, (List.nodup_cons.1 a1).2, fun q hq => a2 q (by simp [hq]), fun x hx => ?_⟩
    · have htk : (g.newT τ.length k (xs.length * sz) (cap * sz)).tk τ.length = k := by simp [Gh.newT]
      have := RepF.own (c := c) (g := g.newT τ.length k (xs.length * sz) (cap * sz)) (nL := dom L) (nT := (τ ++ [true]).length) (w := w) τ.length sz xs cap (by simp) (by rw [htk]; exact hr) (by simp [Gh.newT]) (by simp [Gh.newT]) (by simp [Gh.newT])
      rw [htk] at this; exact this
    · cases x with
      | l i => exact fun hm => a3 (.l i) hx (by simp only [List.mem_append]; exact .inr hm)
      | b i => exact fun hm => a3 (.b i) hx (by simp only [List.mem_append]; exact .inr hm)
      | t i =>
        obtain ⟨c1, c2⟩ := hx
        rcases tok_snoc c1 with hi | rfl
        · have hlt := lt_of_get hi
          simp only [Gh.newT, Nat.ne_of_lt hlt, if_false] at c2
          have := a3 (.t i) ⟨hi, c2⟩
          intro hm
          apply this
          have e : blk (g.newT τ.length k (xs.length * sz) (cap * sz)) (.t i) = blk g (.t i) := by simp [blk, Gh.newT, Nat.ne_of_lt hlt]
          rw [e] at hm
          simp [hm]
        · have e : blk (g.newT τ.length k (xs.length * sz) (cap * sz)) (.t τ.length) = k := by simp [blk, Gh.newT]
          rw [e]; exact hk

end Go.Proofs.YtbbbhalmlboapaaDoor.V

/-
What a call handed back, adopted; what it takes, lent; the operation 'call'.
-/
namespace Go.Proofs.YtbbbhalmlboapaaDoor.V
set_option linter.unusedSimpArgs false
set_option linter.unusedVariables false
open Go Go.RowKit

variable {c : Cx} {g : Gh} {nL : Nat → Prop} {nT : Nat} {w : World}

theorem repOL_of {R : D → Value → List Nat → Prop} : ∀ (ds : List D) (vs : List Value), ds.length = vs.length → (∀ (i : Nat) (d : D) (v : Value), ds[i]? = some d → vs[i]? = some v → R d v []) → RepOL R ds vs []
  | [], [], _, _ => .nil
  | d :: ds, v :: vs, hl, h => by
    have := RepOL.cons d v [] ds vs [] (h 0 d v rfl rfl) (repOL_of ds vs (by simpa using hl) (fun i d v h1 h2 => h (i + 1) d v (by simpa using h1) (by simpa using h2)))
    simpa using this

/-- What adopting a list must do. -/
def AdoptsTo (c : Cx) (g : Gh) (L : List (Option (List D))) (τ : List Bool) (B : List (List D)) (w : World) (τ' : List Bool) (ls : List Nat) (Q : Gh → Prop) : Prop :=
  ∃ g', FS c g' L τ' B w ∧ Gle c g (dom L) τ.length w g' (dom L) τ'.length w ∧ (g'.s = g.s ∧ g'.bx = g.bx) ∧ Apart c g' L τ' ls ∧ Q g'

theorem adoptL_spec {L : List (Option (List D))} {B : List (List D)} {ks : List Nat} {ds : List D} {vs : List Value} {bx : List Nat} {s : Nat → Nat} (hr : RepOL (RepO bx s w) ds vs ks) : ∀ {g : Gh} {τ : List Bool} {ls : List Nat}, g.s = s ∧ g.bx = bx → FS c g L τ B w → Apart c g L τ (ks ++ ls) →
    AdoptsTo c g L τ B w (adoptL τ ds).2 ls fun g' => (adoptL τ ds).1.length = vs.length ∧ ∀ (i : Nat) (d : D), (adoptL τ ds).1[i]? = some d → ∃ v, vs[i]? = some v ∧ RepF c g' (dom L) (adoptL τ ds).2.length w d v := by
  induction hr with
  | nil => intro g τ ls _ h ha; exact ⟨g, h, Gle.refl _ _ _ _ _, ⟨rfl, rfl⟩, ha, rfl, fun i d hi => by simp [adoptL] at hi⟩
  | cons d v k1 ds vs k2 h0 _ ih =>
    intro g τ ls hs h ha
    obtain ⟨rfl, rfl⟩ := hs
    obtain ⟨g1, a1, a2, a3, a4, a5⟩ := adopt_one (ls := k2 ++ ls) h h0 (by rw [← List.append_assoc]; exact ha)
    obtain ⟨g2, b1, b2, b3, b4, b5, b6⟩ := ih a3 a1 a5
    refine ⟨g2, b1, a2.trans b2, ⟨b3.1.trans a3.1, b3.2.trans a3.2⟩, b4, by simp [adoptL, b5], fun i e hi => ?_⟩
    cases i with
    | zero => simp [adoptL] at hi; subst hi; exact ⟨v, rfl, a4.mono b2⟩
    | succ i => simp [adoptL] at hi; obtain ⟨u, hu, hru⟩ := b6 i e hi; exact ⟨u, by simpa using hu, hru⟩

theorem repC_norm {bx : List Nat} {s : Nat → Nat} {d : D} {v : Value} {ks : List Nat} (h : RepC bx s w d v ks) : (∃ ds vs, d = .agg ds ∧ v = .agg vs.toArray ∧ RepOL (RepO bx s w) ds vs ks) ∨ ((∀ ds, d ≠ .agg ds) ∧ RepO bx s w d v ks) := by
  cases h with
  | agg ds vs ks h => exact .inl ⟨ds, vs, rfl, rfl, h⟩
  | one _ _ _ h =>
    cases h with
    | fresh sz xs k cap cs t h hs hh hc => exact .inr ⟨fun ds e => (by cases e), .fresh sz xs k cap cs t h hs hh hc⟩
    | tight sz _ h => exact .inr ⟨fun ds e => (by cases e), .tight sz _ h⟩
    | box sz xs k cap cs t fr h hh hn => exact .inr ⟨fun ds e => (by cases e), .box sz xs k cap cs t fr h hh hn⟩
    | clean _ _ h =>
      cases h with
      | agg ds vs hl h =>
        refine .inl ⟨ds, vs.toList, rfl, by simp, repOL_of ds vs.toList (by simpa using hl) (fun i d v h1 h2 => ?_)⟩
        have := h i d h1
        have e : vs.getD i Go.undef = v := by rw [Array.getElem?_toList] at h2; simp [Array.getD_eq_getD_getElem?, h2]
        rw [e] at this
        exact .clean _ _ this
      | _ => exact .inr ⟨fun ds e => (by cases e), .clean _ _ (by constructor <;> assumption)⟩

theorem adoptC_ne {τ : List Bool} {d : D} (h : ∀ ds, d ≠ .agg ds) : adoptC τ d = adopt τ d := by
  cases d <;> first | rfl | exact absurd rfl (h _)

theorem adoptC_spec {L : List (Option (List D))} {B : List (List D)} {ks ls : List Nat} {d : D} {v : Value} {g : Gh} {τ : List Bool} (hr : RepC g.bx g.s w d v ks) (h : FS c g L τ B w) (ha : Apart c g L τ (ks ++ ls)) :
    AdoptsTo c g L τ B w (adoptC τ d).2 ls fun g' => RepF c g' (dom L) (adoptC τ d).2.length w (adoptC τ d).1 v := by
  rcases repC_norm hr with ⟨ds, vs, rfl, rfl, hr'⟩ | ⟨hne, hr⟩
  · obtain ⟨g', a1, a2, a3, a4, a5, a6⟩ := adoptL_spec hr' ⟨rfl, rfl⟩ h ha
    refine ⟨g', a1, a2, a3, a4, .agg _ _ (by simpa using a5) (fun i d hi => ?_)⟩
    obtain ⟨u, hu, hru⟩ := a6 i d hi
    simp [Array.getD_eq_getD_getElem?, hu]; exact hru
  · rw [adoptC_ne hne]
    obtain ⟨g', a1, a2, a3, a4, a5⟩ := adopt_one h hr ha
    exact ⟨g', a1, a2, a3, a5, a4⟩

theorem adoptCL_spec {L : List (Option (List D))} {B : List (List D)} {ks : List Nat} {ds : List D} {vs : List Value} {bx : List Nat} {s : Nat → Nat} (hr : RepOL (RepC bx s w) ds vs ks) : ∀ {g : Gh} {τ : List Bool} {ls : List Nat}, g.s = s ∧ g.bx = bx → FS c g L τ B w → Apart c g L τ (ks ++ ls) →
    AdoptsTo c g L τ B w (adoptCL τ ds).2 ls fun g' => (adoptCL τ ds).1.length = vs.length ∧ ∀ (i : Nat) (d : D), (adoptCL τ ds).1[i]? = some d → ∃ v, vs[i]? = some v ∧ RepF c g' (dom L) (adoptCL τ ds).2.length w d v := by
  induction hr with
  | nil => intro g τ ls _ h ha; exact ⟨g, h, Gle.refl _ _ _ _ _, ⟨rfl, rfl⟩, ha, rfl, fun i d hi => by simp [adoptCL] at hi⟩
  | cons d v k1 ds vs k2 h0 _ ih =>
    intro g τ ls hs h ha
    obtain ⟨rfl, rfl⟩ := hs
    obtain ⟨g1, a1, a2, a3, a4, a5⟩ := adoptC_spec (ls := k2 ++ ls) h0 h (by rw [← List.append_assoc]; exact ha)
    obtain ⟨g2, b1, b2, b3, b4, b5, b6⟩ := ih a3 a1 a4
    refine ⟨g2, b1, a2.trans b2, ⟨b3.1.trans a3.1, b3.2.trans a3.2⟩, b4, by simp [adoptCL, b5], fun i e hi => ?_⟩
    cases i with
    | zero => simp [adoptCL] at hi; subst hi; exact ⟨v, rfl, a5.mono b2⟩
    | succ i => simp [adoptCL] at hi; obtain ⟨u, hu, hru⟩ := b6 i e hi; exact ⟨u, by simpa using hu, hru⟩

theorem adoptR_spec {L : List (Option (List D))} {B : List (List D)} {ks : List Nat} {d : D} {v : Value} {g : Gh} {τ : List Bool} (hr : RepR g.bx g.s w d v ks) (h : FS c g L τ B w) (ha : Apart c g L τ ks) :
    ∃ g', FS c g' L (adoptR τ d).2 B w ∧ Gle c g (dom L) τ.length w g' (dom L) (adoptR τ d).2.length w ∧ RepF c g' (dom L) (adoptR τ d).2.length w (adoptR τ d).1 v := by
  cases hr with
  | tuple ds vs ks hr =>
    obtain ⟨g', a1, a2, a3, a4, a5, a6⟩ := adoptCL_spec (ls := []) hr ⟨rfl, rfl⟩ h (by simpa using ha)
    refine ⟨g', a1, a2, .tuple _ _ (by simpa using a5) (fun i d hi => ?_)⟩
    obtain ⟨u, hu, hru⟩ := a6 i d hi
    simp [Array.getD_eq_getD_getElem?, hu]; exact hru
  | one _ _ _ hr =>
    have hne : adoptR τ d = adoptC τ d := by
      cases d <;> try rfl
      rename_i ds
      rcases repC_norm hr with ⟨_, _, e, _⟩ | ⟨_, hr⟩
      · cases e
      · cases hr with | clean _ _ h => cases h
    rw [hne]
    obtain ⟨g', a1, a2, a3, a4, a5⟩ := adoptC_spec (ls := []) hr h (by simpa using ha)
    exact ⟨g', a1, a2, a5⟩

/-! ### What is plain leads to no memory -/
mutual
theorem plain_rep {bx bx' : List Nat} {s s' : Nat → Nat} {w w' : World} : ∀ (d : D) {v : Value}, d.plain = true → Rep bx s w d v → Rep bx' s' w' d v
  | .bool b, v, _, h => by cases h; exact .bool _
  | .int k n, v, _, h => by cases h; exact .int _ _
  | .str l, v, _, h => by cases h; exact .str _
  | .nilp, v, _, h => by cases h; exact .nilp
  | .nili, v, _, h => by cases h; exact .nili
  | .nilsl, v, hp, h => by simp [D.plain] at hp
  | .nilfn, v, _, h => by cases h; exact .nilfn
  | .iface t d, v, hp, h => by
    cases h with | iface _ _ u hu => exact .iface _ _ _ (plain_rep d hp hu)
  | .agg ds, v, hp, h => by
    cases h with | agg _ vs hl h => exact .agg _ _ hl (plain_repL ds hp h)
  | .undef, v, hp, h => by simp [D.plain] at hp
  | .lptr _ _, v, hp, h => by simp [D.plain] at hp
  | .bptr _ _, v, hp, h => by simp [D.plain] at hp
  | .fptr _, v, hp, h => by simp [D.plain] at hp
  | .vec _ _ _, v, hp, h => by simp [D.plain] at hp
  | .lsl _ _ _ _, v, hp, h => by simp [D.plain] at hp
  | .tuple _, v, hp, h => by cases h
  | .fn _ _, v, hp, h => by simp [D.plain] at hp
theorem plain_repL {bx bx' : List Nat} {s s' : Nat → Nat} {w w' : World} : ∀ (ds : List D) {f : Nat → Value}, D.plain.plainL ds = true → (∀ (i : Nat) (d : D), ds[i]? = some d → Rep bx s w d (f i)) → ∀ (i : Nat) (d : D), ds[i]? = some d → Rep bx' s' w' d (f i)
  | [], f, _, h, i, d, hi => by simp at hi
  | x :: xs, f, hp, h, i, d, hi => by
    simp only [D.plain.plainL, Bool.and_eq_true] at hp
    cases i with
    | zero => simp at hi; subst hi; exact plain_rep x hp.1 (h 0 x rfl)
    | succ i => exact plain_repL xs (f := fun j => f (j + 1)) hp.2 (fun j e hj => h (j + 1) e (by simpa using hj)) i d (by simpa using hi)
end

end Go.Proofs.YtbbbhalmlboapaaDoor.V

/-
The operation 'call'.
-/
namespace Go.Proofs.YtbbbhalmlboapaaDoor.V
set_option linter.unusedSimpArgs false
set_option linter.unusedVariables false
open Go Go.RowKit

variable {c : Cx} {g : Gh} {nL : Nat → Prop} {nT : Nat} {w : World}

theorem repOL_get {R : D → Value → List Nat → Prop} {ds : List D} {vs : List Value} {ks : List Nat} (h : RepOL R ds vs ks) : ds.length = vs.length ∧ ∀ (i : Nat) (d : D), ds[i]? = some d → ∃ v ls, vs[i]? = some v ∧ R d v ls := by
  induction h with
  | nil => exact ⟨rfl, fun i d hi => by simp at hi⟩
  | cons d v ks ds vs ls h _ ih =>
    refine ⟨by simp [ih.1], fun i e hi => ?_⟩
    cases i with
    | zero => simp at hi; subst hi; exact ⟨v, ks, rfl, h⟩
    | succ i => simp at hi; obtain ⟨u, l, h1, h2⟩ := ih.2 i e hi; exact ⟨u, l, by simpa using h1, h2⟩

theorem plain_get : ∀ {ds : List D}, D.plain.plainL ds = true → ∀ {i : Nat} {d : D}, ds[i]? = some d → d.plain = true
  | [], _, i, d, h => by simp at h
  | x :: xs, hp, i, d, h => by
    simp only [D.plain.plainL, Bool.and_eq_true] at hp
    cases i with
    | zero => simp at h; subst h; exact hp.1
    | succ i => exact plain_get hp.2 (by simpa using h)

theorem plain_repO {bx : List Nat} {s : Nat → Nat} {d : D} {v : Value} {ks : List Nat} (hp : d.plain = true) (h : RepO bx s w d v ks) {bx' : List Nat} (s' : Nat → Nat) (w' : World) : Rep bx' s' w' d v := by
  cases h with
  | clean _ _ h => exact plain_rep d hp h
  | fresh => simp [D.plain] at hp
  | tight => simp [D.plain] at hp
  | box => simp [D.plain] at hp

theorem plain_repC {bx : List Nat} {s : Nat → Nat} {d : D} {v : Value} {ks : List Nat} (hp : d.plain = true) (h : RepC bx s w d v ks) {bx' : List Nat} (s' : Nat → Nat) (w' : World) : Rep bx' s' w' d v := by
  cases h with
  | one _ _ _ h => exact plain_repO hp h s' w'
  | agg ds vs ks h =>
    simp only [D.plain] at hp
    obtain ⟨h1, h2⟩ := repOL_get h
    refine .agg _ _ (by simpa using h1) (fun i d hi => ?_)
    obtain ⟨u, ls, hu, hr⟩ := h2 i d hi
    simp [Array.getD_eq_getD_getElem?, hu]
    exact plain_repO (plain_get hp hi) hr s' w'

theorem plain_repR {bx : List Nat} {s : Nat → Nat} {d : D} {v : Value} {ks : List Nat} (hp : d.plain = true) (h : RepR bx s w d v ks) (g : Gh) (nL : Nat → Prop) (nT : Nat) (w' : World) : RepF c g nL nT w' d v := by
  cases h with
  | one _ _ _ h => exact .clean _ _ (plain_repC hp h _ _)
  | tuple ds vs ks h =>
    simp only [D.plain] at hp
    obtain ⟨h1, h2⟩ := repOL_get h
    refine .tuple _ _ (by simpa using h1) (fun i d hi => ?_)
    obtain ⟨u, ls, hu, hr⟩ := h2 i d hi
    simp [Array.getD_eq_getD_getElem?, hu]
    exact .clean _ _ (plain_repC (plain_get hp hi) hr _ _)

/-! ### What is lent -/
open Classical in
/-- While a call runs, this frame's own boxes stay what they are. -/
noncomputable def lend (g : Gh) (L : List (Option (List D))) (w : World) : Nat → Nat := fun k =>
  if ∃ i ds, L[i]? = some (some ds) ∧ g.loc i = k then (match w.heap[k]? with | some (.cells cs _ _) => cs.size | _ => 0) else g.s k

theorem lend_le {L : List (Option (List D))} {τ : List Bool} {B : List (List D)} (h : FS c g L τ B w) (k : Nat) : g.s k ≤ lend g L w k := by
  unfold lend
  split
  · rename_i hk
    obtain ⟨i, ds, hi, rfl⟩ := hk
    rw [(h.boxL i ds hi).1]; exact Nat.zero_le _
  · exact Nat.le_refl _

theorem lend_zero {L : List (Option (List D))} {τ : List Bool} {B : List (List D)} (h : FS c g L τ B w) (k : Nat) (hk : w.heap.size ≤ k) : lend g L w k = 0 := by
  unfold lend
  split
  · rename_i hk'
    obtain ⟨i, ds, hi, rfl⟩ := hk'
    exact absurd (h.lt (x := .l i) ⟨ds, hi⟩) (Nat.not_lt.2 hk)
  · exact h.zero k hk

theorem lend_box {L : List (Option (List D))} {τ : List Bool} {B : List (List D)} (h : FS c g L τ B w) (b k : Nat) (hb : g.bx[b]? = some k) : lend g L w k = 0 := by
  unfold lend
  split
  · rename_i hk'
    obtain ⟨i, ds, hi, he⟩ := hk'
    have := h.inj (.l i) (.b b) ⟨ds, hi⟩ (lt_of_get hb) (he.trans (bx_getD hb).symm)
    cases this
  · obtain ⟨_, _, h0, _⟩ := h.boxAt hb
    exact h0

theorem borrow_spec {st : St} {x e : D} {v : Value} (hf : FS c g st.L st.τ st.B w) (h : st.borrow x = some e) (hr : RepF c g (dom st.L) st.τ.length w x v) :
    Rep g.bx (lend g st.L w) w e v ∧ (x.isLsl = false → Rep g.bx g.s w e v) := by
  have hev : Ev g.bx g.s w g.bx (lend g st.L w) w := ⟨fun _ _ h => h, fun k _ => lend_le hf k, fun _ _ _ _ h => h⟩
  have other : ∀ {y : D}, y.demoteC = some e → RepF c g (dom st.L) st.τ.length w y v → Rep g.bx (lend g st.L w) w e v ∧ (y.isLsl = false → Rep g.bx g.s w e v) := fun h hr => by
    have := demoteC_clean h hr
    exact ⟨this.mono hev, fun _ => this⟩
  cases x <;> simp only [St.borrow] at h
  case lsl i off len sz =>
    cases hsz : Nat.beq sz 1 with
    | false => simp [hsz] at h
    | true =>
      simp only [hsz, cond_true] at h
      have hsz := beq_of hsz
      subst hsz
      split at h
      · rename_i ds hL
        split at h
        · rename_i hfit
          cases hg : ds.all D.global with
          | false => simp [hg] at h
          | true =>
            simp only [hg, cond_true, Option.some.injEq] at h
            subst h
            refine ⟨?_, fun h => by simp [D.isLsl] at h⟩
            have hel : st.elems 1 (.lsl i off len 1) = some ((ds.drop off).take len) := by simp [St.elems, hL, hfit, hg]
            obtain ⟨us, hrow⟩ := elems_spec (P := c.P) hf hr hel
            obtain ⟨cap, rfl, hi, hcap⟩ := hr.lsl_inv
            obtain ⟨h0, cs, t, fr, hh, _, hc⟩ := hf.boxL i ds hL
            have hlen : ((ds.drop off).take len).length = len := by simp; omega
            have hgl : ∀ d, d ∈ ds → d.global = true := List.all_eq_true.1 hg
            have hcl : cellsL ((ds.drop off).take len) = (ds.drop off).take len := cellsL_leaf (fun d hd => global_leaf (hgl d (List.mem_of_mem_drop (List.mem_of_mem_take hd))))
            have hsz : ds.length ≤ cs.size := by
              rcases Nat.eq_zero_or_pos ds.length with h | h
              · omega
              · obtain ⟨v, hv, _⟩ := hc (ds.length - 1) _ (List.getElem?_eq_getElem (by omega))
                have := (Array.getElem?_eq_some_iff.1 hv).1; omega
            have hat : ∀ (j : Nat) (d : D), ((ds.drop off).take len)[j]? = some d → cs[off + j]? = some (cs.getD (off + j) Go.undef) ∧ Rep g.bx g.s w d (cs.getD (off + j) Go.undef) := fun j d hj => by
              have hlt := lt_of_get hj
              rw [List.getElem?_take_of_lt (by omega), List.getElem?_drop] at hj
              obtain ⟨u, hu, hru⟩ := hc _ _ hj
              simp [Array.getD_eq_getD_getElem?, hu]
              exact global_clean (hgl _ (List.mem_of_getElem? hj)) hru
            have := Rep.vec (bx := g.bx) (s := lend g st.L w) (w := w) 1 ((ds.drop off).take len) .none ⟨g.loc i, off, none⟩ cap (fun j => cs.getD (off + j) Go.undef) (.inl rfl) (by omega) hrow.ok
              (fun j d hj => by
                rw [hcl] at hj
                have h := (hat j d hj).1
                rw [add_plain]
                show w.cell? ⟨g.loc i, off + j, none⟩ = some (cs.getD (off + j) Go.undef)
                generalize cs.getD (off + j) Go.undef = u at h ⊢
                simp [World.cell?, hh, h])
              (fun j d hj => by rw [hcl] at hj; exact (hat j d hj).2.mono hev)
              (fun _ => by
                show off + _ * 1 ≤ lend g st.L w (g.loc i)
                have : lend g st.L w (g.loc i) = cs.size := by
                  unfold lend
                  rw [if_pos ⟨i, ds, hL, rfl⟩, hh]
                rw [this, hlen]; omega)
            rw [hlen] at this
            exact this
        · cases h
      · cases h
  all_goals exact other h hr

theorem borrowL_spec {st : St} (hf : FS c g st.L st.τ st.B w) : ∀ {xs es : List D} {vs : List Value}, st.borrowL xs = some es → xs.length = vs.length → (∀ (i : Nat) (d : D), xs[i]? = some d → ∃ v, vs[i]? = some v ∧ RepF c g (dom st.L) st.τ.length w d v) →
    es.length = vs.length ∧ ∀ (i : Nat) (e : D), es[i]? = some e → ∃ v, vs[i]? = some v ∧ Rep g.bx (lend g st.L w) w e v ∧ (xs.any D.isLsl = false → Rep g.bx g.s w e v)
  | [], es, vs, h, hl, _ => by simp [St.borrowL] at h; subst h; exact ⟨hl, fun i e hi => by simp at hi⟩
  | x :: xs, es, [], h, hl, _ => by simp at hl
  | x :: xs, es, v :: vs, h, hl, hr => by
    simp only [St.borrowL] at h
    split at h
    · rename_i y hy
      split at h
      · rename_i ys hys
        injection h with h; subst h
        obtain ⟨v', hv', hrx⟩ := hr 0 x rfl
        simp at hv'; subst hv'
        obtain ⟨b1, b2⟩ := borrow_spec hf hy hrx
        obtain ⟨h1, h2⟩ := borrowL_spec hf hys (by simpa using hl) (fun i d hi => by obtain ⟨v, hv, hr⟩ := hr (i + 1) d (by simpa using hi); exact ⟨v, by simpa using hv, hr⟩)
        refine ⟨by simp [h1], fun i e hi => ?_⟩
        cases i with
        | zero => simp at hi; subst hi; exact ⟨v, rfl, b1, fun h => b2 (by simp at h; exact h.1)⟩
        | succ i =>
          simp at hi
          obtain ⟨u, h3, h4, h5⟩ := h2 i e hi
          exact ⟨u, by simpa using h3, h4, fun h => h5 (by simp at h ⊢; exact h.2)⟩
      · cases h
    · cases h

/-- What a callee gets that may append to this call's own rows. -/
theorem moveL_spec {st : St} (hf : FS c g st.L st.τ st.B w) : ∀ {xs es : List D} {τ τ' : List Bool} {vs : List Value}, (∀ i : Nat, τ[i]? = some true → st.τ[i]? = some true) → moveL st τ xs = some (es, τ') → xs.any D.isLsl = false → xs.length = vs.length → (∀ (i : Nat) (d : D), xs[i]? = some d → ∃ v, vs[i]? = some v ∧ RepF c g (dom st.L) st.τ.length w d v) →
    ∃ ks, RepOL (RepC g.bx g.s w) es vs ks ∧ ks.Nodup ∧ τ'.length = τ.length ∧ (∀ i : Nat, τ'[i]? = some true → τ[i]? = some true) ∧ ∀ k, k ∈ ks → ∃ i : Nat, τ[i]? = some true ∧ τ'[i]? ≠ some true ∧ g.ow i = true ∧ g.tk i = k
  | [], es, τ, τ', vs, _, h, _, hl, _ => by
    simp [moveL] at h
    obtain ⟨rfl, rfl⟩ := h
    cases vs with
    | nil => exact ⟨[], .nil, List.nodup_nil, rfl, fun _ h => h, fun k hk => by cases hk⟩
    | cons _ _ => simp at hl
  | x :: xs, es, τ, τ', [], _, h, _, hl, _ => by simp at hl
  | x :: xs, es, τ, τ', v :: vs, hsub, h, hany, hl, hr => by
    obtain ⟨v', hv', hrx⟩ := hr 0 x rfl
    simp at hv'; subst hv'
    have hr' : ∀ (i : Nat) (d : D), xs[i]? = some d → ∃ v, vs[i]? = some v ∧ RepF c g (dom st.L) st.τ.length w d v := fun i d hi => by
      obtain ⟨u, hu, hr⟩ := hr (i + 1) d (by simpa using hi)
      exact ⟨u, by simpa using hu, hr⟩
    have hl' : xs.length = vs.length := by simpa using hl
    simp only [List.any_cons, Bool.or_eq_false_iff] at hany
    -- one that takes no row
    have plain : ∀ {e : D} {es' : List D}, RepC g.bx g.s w e v [] → moveL st τ xs = some (es', τ') → es = e :: es' → ∃ ks, RepOL (RepC g.bx g.s w) es (v :: vs) ks ∧ ks.Nodup ∧ τ'.length = τ.length ∧ (∀ i : Nat, τ'[i]? = some true → τ[i]? = some true) ∧ ∀ k, k ∈ ks → ∃ i : Nat, τ[i]? = some true ∧ τ'[i]? ≠ some true ∧ g.ow i = true ∧ g.tk i = k := fun h1 h2 h3 => by
      obtain ⟨ks, a1, a2, a3, a4, a5⟩ := moveL_spec hf hsub h2 hany.2 hl' hr'
      subst h3
      exact ⟨[] ++ ks, .cons _ _ _ _ _ _ h1 a1, by simpa using a2, a3, a4, by simpa using a5⟩
    simp only [moveL] at h
    split at h
    · rename_i sz ys i
      split at h
      · rename_i hti
        split at h
        · rename_i es' τ2 h2
          injection h with h; injection h with e1 e2; subst e1; subst e2
          have hsub2 : ∀ j : Nat, (τ.set i false)[j]? = some true → τ[j]? = some true ∧ j ≠ i := fun j hj => by
            by_cases hij : i = j
            · subst hij; rw [List.getElem?_set] at hj; simp at hj
            · rw [List.getElem?_set_ne hij] at hj; exact ⟨hj, fun e => hij e.symm⟩
          obtain ⟨ks, a1, a2, a3, a4, a5⟩ := moveL_spec hf (fun j hj => hsub j (hsub2 j hj).1) h2 hany.2 hl' hr'
          have a3' : τ2.length = τ.length := by rw [a3]; simp
          have a4' : ∀ j : Nat, τ2[j]? = some true → τ[j]? = some true ∧ j ≠ i := fun j hj => hsub2 j (a4 j hj)
          have a5' : ∀ k, k ∈ ks → ∃ j : Nat, τ[j]? = some true ∧ j ≠ i ∧ τ2[j]? ≠ some true ∧ g.ow j = true ∧ g.tk j = k := fun k hk => by
            obtain ⟨j, b1, b2, b3, b4⟩ := a5 k hk
            exact ⟨j, (hsub2 j b1).1, (hsub2 j b1).2, b2, b3, b4⟩
          have hti2 := hsub i hti
          obtain ⟨hi, hcl, ⟨rfl, hex⟩ | ⟨how, cap, rfl, hen, hbs⟩⟩ := hrx.own_inv
          · refine ⟨[] ++ ks, .cons _ _ _ _ _ _ (.one _ _ _ (.tight _ _ hex)) a1, by simpa using a2, a3', fun j hj => (a4' j hj).1, fun k hk => ?_⟩
            obtain ⟨j, b1, _, b2, b3, b4⟩ := a5' k (by simpa using hk)
            exact ⟨j, b1, b2, b3, b4⟩
          · obtain ⟨b1, cs, t, b2, b3⟩ := hf.tok i hti2 how
            refine ⟨[g.tk i] ++ ks, .cons _ _ _ _ _ _ (.one _ _ _ (.fresh sz ys (g.tk i) cap cs t hcl (b1.trans hen.symm) b2 (b3.trans hbs.symm))) a1, ?_, a3', fun j hj => (a4' j hj).1, fun k hk => ?_⟩
            · refine List.nodup_cons.2 ⟨fun hm => ?_, a2⟩
              obtain ⟨j, c1, c2, _, c3, c4⟩ := a5' _ hm
              have := hf.inj (.t j) (.t i) ⟨hsub j c1, c3⟩ ⟨hti2, how⟩ c4
              injection this with this
              exact c2 this
            · rcases List.mem_append.1 hk with hk | hk
              · simp at hk; subst hk
                exact ⟨i, hti, fun hc => (a4' i hc).2 rfl, how, rfl⟩
              · obtain ⟨j, c1, _, c2, c3, c4⟩ := a5' k hk
                exact ⟨j, c1, c2, c3, c4⟩
        · cases h
      · cases h
    · split at h
      · rename_i sz ys _ es' τ2 h2
        injection h with h; injection h with e1 e2; subst e1; subst e2
        refine plain (.one _ _ _ ?_) h2 rfl
        cases ys with
        | nil => exact .tight _ _ hrx.exact_inv
        | cons _ _ => exact .clean _ _ hrx.exact_inv.to_none
      · cases h
    · split at h
      · rename_i e he
        split at h
        · rename_i es' τ2 h2
          injection h with h; injection h with e1 e2; subst e1; subst e2
          exact plain (.one _ _ _ (.clean _ _ ((borrow_spec hf he hrx).2 hany.1))) h2 rfl
        · cases h
      · cases h

end Go.Proofs.YtbbbhalmlboapaaDoor.V

/-
The operation 'call': the rest.
-/
namespace Go.Proofs.YtbbbhalmlboapaaDoor.V
set_option linter.unusedSimpArgs false
set_option linter.unusedVariables false
open Go Go.RowKit

variable {c : Cx} {g : Gh} {nL : Nat → Prop} {nT : Nat} {w : World}

theorem exec_call {P : Program} {a : Act} {o : Oper} {cl : Call} {x : Operand} {f : FuncId} {caps : Array Value} {fn : Func} (ho : o.op = .call cl) (hb : cl.callee = .value x) (hx : a.eval x = .func (.func f) #[] caps) (hf : P.funcs[f]? = some fn)
    (hn : (fn.name == "runtime.NumGoroutine") = false) (hbo : fn.body.isNone = false) (w : World) : (execOp a.eval o).run P w = .ok (.enter f (cl.args.map a.eval ++ caps)) w := by
  have hn' : ¬ fn.name = "runtime.NumGoroutine" := by simpa using hn
  have hbo' : ¬ fn.body = none := by intro h; simp [h] at hbo
  simp [execOp, ho, resolve, hb, hx, Deferred.ofValue, invoke, callFunc, hf, hn', hbo']

theorem repOL_append {R : D → Value → List Nat → Prop} {ds es : List D} {vs us : List Value} {ks ls : List Nat} (h : RepOL R ds vs ks) (h' : RepOL R es us ls) : RepOL R (ds ++ es) (vs ++ us) (ks ++ ls) := by
  induction h with
  | nil => simpa using h'
  | cons d v ks ds vs ls h _ ih =>
    rw [List.append_assoc]
    exact .cons _ _ _ _ _ _ h ih

theorem repOL_clean {bx : List Nat} {s : Nat → Nat} {ds : List D} {vs : List Value} (hl : ds.length = vs.length) (h : ∀ (i : Nat) (d : D), ds[i]? = some d → ∃ v, vs[i]? = some v ∧ Rep bx s w d v) : RepOL (RepC bx s w) ds vs [] :=
  repOL_of ds vs hl (fun i d v h1 h2 => by
    obtain ⟨u, hu, hr⟩ := h i d h1
    rw [h2] at hu; injection hu with hu; subst hu
    exact .one _ _ _ (.clean _ _ hr))

theorem caps_clean {bx : List Nat} {s : Nat → Nat} {ds : List D} {vs : Array Value} (hl : ds.length = vs.size) (h : ∀ (i : Nat) (d : D), ds[i]? = some d → Rep bx s w d (vs.getD i Go.undef)) : RepOL (RepC bx s w) ds vs.toList [] :=
  repOL_clean (by simpa using hl) (fun i d hi => ⟨vs.getD i Go.undef, by
    have := lt_of_get hi
    rw [Array.getElem?_toList]; exact getD_some (by omega), h i d hi⟩)

theorem FS.boxOf {L : List (Option (List D))} {τ : List Bool} {B : List (List D)} (h : FS c g L τ B w) {k : Nat} (hk : k ∈ g.bx) : g.s k = 0 ∧ k < w.heap.size := by
  obtain ⟨b, hb⟩ := List.getElem?_of_mem hk
  obtain ⟨_, _, h0, cs, t, fr, hh, _⟩ := h.boxAt hb
  exact ⟨h0, (Array.getElem?_eq_some_iff.1 hh).1⟩

theorem free_repO {bx bx' : List Nat} {s s' : Nat → Nat} {d : D} {v : Value} {ks : List Nat} (hp : d.freeO = true) (h : RepO bx s w d v ks) (hs : ∀ k, k ∈ ks → s' k = s k) : RepO bx' s' w d v ks := by
  cases h with
  | clean _ _ h =>
    refine .clean _ _ (plain_rep d ?_ h)
    unfold D.freeO at hp
    split at hp
    · cases h with
      | nilv _ _ hp => rcases hp with h | h <;> cases h
      | vec _ _ _ _ _ _ hp => rcases hp with h | ⟨h, _⟩ | h <;> cases h
    · exact hp
  | fresh sz xs k cap cs t h hsk hh hc =>
    simp only [D.freeO, Bool.and_eq_true] at hp
    have hleaf : ∀ x, x ∈ xs → x.leaf = true := List.all_eq_true.1 hp.2
    have hcx : cellsL xs = xs := cellsL_leaf hleaf
    have e := hs k (by simp)
    refine .fresh sz xs k cap cs t ?_ (e.trans hsk) hh hc
    cases h with
    | vec _ _ _ a _ vs hq hcap hsz hc hr hst =>
      refine .vec sz xs .none _ cap vs hq hcap hsz hc (fun i d hi => plain_rep d ?_ (hr i d hi)) (fun hne => ?_)
      · rw [hcx] at hi; exact List.all_eq_true.1 hp.1 _ (List.mem_of_getElem? hi)
      · have := hst hne
        simp only at this ⊢
        rw [e]; exact this
  | tight sz _ h =>
    refine .tight sz _ ?_
    cases h with
    | nilv _ _ hq => exact .nilv sz .exact (.inr rfl)
    | vec _ _ _ a cap vs hq hcap hsz hc hr hst => exact .vec sz [] .exact a cap vs hq hcap hsz (fun i d hi => by simp [cellsL] at hi) (fun i d hi => by simp [cellsL] at hi) (fun hne => absurd rfl hne)
  | box => simp [D.freeO, D.plain] at hp

theorem free_repC {bx bx' : List Nat} {s s' : Nat → Nat} {d : D} {v : Value} {ks : List Nat} (hp : d.freeO = true) (h : RepC bx s w d v ks) (hs : ∀ k, k ∈ ks → s' k = s k) : RepC bx' s' w d v ks := by
  cases h with
  | one _ _ _ h => exact .one _ _ _ (free_repO hp h hs)
  | agg ds vs ks h =>
    have hq : D.plain.plainL ds = true := by simpa only [D.freeO, D.plain] using hp
    refine .agg _ _ _ ?_
    clear hp
    induction h with
    | nil => exact .nil
    | cons d v k1 ds vs k2 h0 _ ih =>
      simp only [D.plain.plainL, Bool.and_eq_true] at hq
      refine .cons _ _ _ _ _ _ ?_ (ih (fun k hk => hs k (by simp [hk])) hq.2)
      cases h0 with
      | clean _ _ h => exact .clean _ _ (plain_rep d hq.1 h)
      | fresh => simp [D.plain] at hq
      | tight => simp [D.plain] at hq
      | box => simp [D.plain] at hq

theorem free_repR {bx bx' : List Nat} {s s' : Nat → Nat} {d : D} {v : Value} {ks : List Nat} (hp : d.freeR = true) (h : RepR bx s w d v ks) (hs : ∀ k, k ∈ ks → s' k = s k) : RepR bx' s' w d v ks := by
  cases h with
  | one _ _ _ h =>
    refine .one _ _ _ (free_repC ?_ h hs)
    unfold D.freeR at hp
    split at hp
    · cases h with
      | one _ _ _ h => cases h with | clean _ _ h => cases h
    · exact hp
  | tuple ds vs ks h =>
    have hq : ∀ x, x ∈ ds → x.freeO = true := by
      have : ds.all D.freeO = true := hp
      exact List.all_eq_true.1 this
    refine .tuple _ _ _ ?_
    clear hp
    induction h with
    | nil => exact .nil
    | cons d v k1 ds vs k2 h0 _ ih => exact .cons _ _ _ _ _ _ (free_repC (hq d (by simp)) h0 (fun k hk => hs k (by simp [hk]))) (ih (fun k hk => hs k (by simp [hk])) (fun x hx => hq x (by simp [hx])))

/-- A row that was handed back, of plain values. -/
theorem row1_inv {bx : List Nat} {s : Nat → Nat} {d : D} {v : Value} {ks : List Nat} (hd : d.row1 = true) (h : RepC bx s w d v ks) : ∃ (xs : List D) (p : Perm) (k0 cap : Nat) (cs : Array Value) (t : TypeId) (fr : Nat × Nat) (f : Nat → Value),
    d = .vec 1 xs p ∧ v = .slice (some ⟨k0, 0, none⟩) xs.length cap ∧ ks = [k0] ∧ xs.length ≤ cap ∧ w.heap[k0]? = some (.cells cs t fr) ∧ nofr fr cs.size ∧ ∀ (j : Nat) (d : D), xs[j]? = some d → cs[j]? = some (f j) ∧ ∀ bx s, Rep bx s w d (f j) := by
  have key : ∀ (xs : List D) (k0 cap : Nat) (cs : Array Value) (t : TypeId) (fr : Nat × Nat), xs.all D.plain = true → xs.all D.leaf = true → Rep bx s w (.vec 1 xs .none) (.slice (some ⟨k0, 0, none⟩) xs.length cap) → w.heap[k0]? = some (.cells cs t fr) →
      xs.length ≤ cap ∧ ∃ f : Nat → Value, ∀ (j : Nat) (d : D), xs[j]? = some d → cs[j]? = some (f j) ∧ ∀ bx s, Rep bx s w d (f j) := fun xs k0 cap cs t fr hp hl hrow hh => by
    have hcx : cellsL xs = xs := cellsL_leaf (List.all_eq_true.1 hl)
    cases hrow with
    | vec _ _ _ _ _ f hp' hcap hok hcell hre hst =>
      rw [hcx] at hcell hre
      refine ⟨hcap, f, fun j d hj => ?_⟩
      have h1 := hcell j d hj
      rw [add_plain, Nat.zero_add] at h1
      exact ⟨by simpa [World.cell?, hh] using h1, fun bx s => plain_rep d (List.all_eq_true.1 hp _ (List.mem_of_getElem? hj)) (hre j d hj)⟩
  unfold D.row1 at hd
  split at hd
  · rename_i sz xs
    simp only [Bool.and_eq_true] at hd
    obtain ⟨⟨⟨h1, h2⟩, h3⟩, h4⟩ := hd
    obtain rfl := beq_of h1
    cases h with
    | one _ _ _ h =>
      cases h with
      | clean _ _ h =>
        cases h with
        | nilv _ _ hp => rcases hp with h | h <;> cases h
        | vec _ _ _ _ _ _ hp => rcases hp with h | ⟨h, _⟩ | h <;> cases h
      | fresh _ _ k0 cap cs t hrow hs hh hc =>
        obtain ⟨a1, f, a2⟩ := key xs k0 cap cs t _ h3 h4 hrow hh
        exact ⟨xs, _, k0, cap, cs, t, _, f, rfl, rfl, rfl, a1, hh, nofr_zero _, a2⟩
      | tight => simp at h2
  · rename_i sz xs
    simp only [Bool.and_eq_true] at hd
    obtain ⟨⟨⟨h1, h2⟩, h3⟩, h4⟩ := hd
    obtain rfl := beq_of h1
    cases h with
    | one _ _ _ h =>
      cases h with
      | clean _ _ h =>
        cases h with
        | nilv _ _ hp => rcases hp with h | h <;> cases h
        | vec _ _ _ _ _ _ hp => rcases hp with h | ⟨h, _⟩ | h <;> cases h
      | box _ _ k0 cap cs t fr hrow hh hn =>
        obtain ⟨a1, f, a2⟩ := key xs k0 cap cs t _ h3 h4 hrow hh
        exact ⟨xs, _, k0, cap, cs, t, fr, f, rfl, rfl, rfl, a1, hh, hn, a2⟩
  · cases hd

theorem op_call {C : Callees} (hC : CallOK c C) {st st' : St} {a : Act} {o : Oper} {cl : Call} {x : Operand} {d : D} (ho : o.op = .call cl) (hb : cl.callee = .value x)
    (hf : FS c g st.L st.τ st.B w) (he : EnvR c g (dom st.L) st.τ.length w st.ρ a) {fl : Nat} {T : Tab} {ts' : List TypeId} (hd : callOpV C fl st (eval st.ρ x) (argsV T st.ρ cl.args.toList ts') = some (d, st')) : OpOk c g st w a o d st' := by
  intro K Q hK
  have hrx := he.eval x
  obtain ⟨hlen, hargs⟩ := argsV_spec (T := T) he cl.args.toList ts'
  unfold callOpV at hd
  split at hd
  · rename_i f caps hfx
    rw [hfx] at hrx
    obtain ⟨cvs, hv, hcl, hcr⟩ := hrx.fn_inv
    have hto : cl.args.map a.eval ++ cvs = (cl.args.toList.map a.eval ++ cvs.toList).toArray := by apply Array.ext'; simp
    cases hm2 : Nat.beq fl 2 with
    | true =>
      rw [hm2] at hd
      simp only [cond_true] at hd
      split at hd
      · rename_i es τ1 hes
        split at hd
        · rename_i r B' hcall
          cases hany : (argsV T st.ρ cl.args.toList ts').any D.isLsl with
          | true => rw [hany] at hd; cases hd
          | false =>
            rw [hany] at hd
            simp only [cond_false] at hd
            injection hd with hd; injection hd with e1 e2; subst e1; subst e2
            obtain ⟨⟨fn, h1, h2, h3⟩, hcalls⟩ := hC f (es ++ caps) st.B r B' hcall
            have hex := exec_call (P := c.P) (a := a) ho hb hv h1 h2 h3 w
            unfold Oper.wp
            rw [hex, Oper.upon_enter, hto]
            obtain ⟨ks, m1, m2, m3, m4, m5⟩ := moveL_spec hf (fun _ h => h) hes hany hlen hargs
            have hnb : ∀ k, k ∈ ks → k ∉ g.bx := fun k hk hm => by
              obtain ⟨i, a1, _, a3, a4⟩ := m5 k hk
              obtain ⟨b, hb2⟩ := List.getElem?_of_mem hm
              have := hf.inj (.t i) (.b b) ⟨a1, a3⟩ (lt_of_get hb2) (a4.trans (bx_getD hb2).symm)
              cases this
            have hkw : ∀ k, k ∈ ks → c.base ≤ k ∧ k < w.heap.size := fun k hk => by
              obtain ⟨i, a1, _, a3, a4⟩ := m5 k hk
              subst a4
              exact ⟨hf.baseT a1 a3, hf.lt (x := .t i) ⟨a1, a3⟩⟩
            have henter := hf.enter g.s ks (fun _ => Nat.le_refl _) hf.zero (fun b k hb2 => (hf.boxOf (List.mem_of_getElem? hb2)).1) hkw
            have hargs2 : RepOL (RepC g.bx g.s w) (es ++ caps) (cl.args.toList.map a.eval ++ cvs.toList) ks := by
              have := repOL_append m1 (caps_clean hcl hcr)
              simpa using this
            refine Calls.mono (hcalls w g _ ks henter hargs2 m2 hnb) (fun e w' he' => ?_)
            obtain ⟨v, rfl, g', ls, hf', hrep, hnd, hls⟩ := he'
            -- the rows that were moved are shut
            have hf1 : FS c g st.L τ1 st.B w ∧ Gle c g (dom st.L) st.τ.length w g (dom st.L) τ1.length w := by
              have hg : Gle c g (dom st.L) st.τ.length w g (dom st.L) τ1.length w := by rw [m3]; exact Gle.refl _ _ _ _ _
              have hlv : ∀ y, live g st.L τ1 y → live g st.L st.τ y := fun y hy => by
                cases y with
                | l i => exact hy
                | b i => exact hy
                | t i => exact ⟨m4 i hy.1, hy.2⟩
              exact ⟨⟨hf.below, hf.entry, hf.baseLe, hf.nB, hf.pre, hf.zero, hf.frame, hf.os, hf.tape, hf.output, hf.newL, fun i hi hw => hf.newT i (m4 i hi) hw, hf.newB, hf.old, hf.mvS,
                fun i ds hi => (hf.boxL i ds hi).mono (fun _ _ hr => hr.mono hg) rfl rfl, hf.boxB, fun i hi hw => hf.tok i (m4 i hi) hw, fun y z hy hz he => hf.inj y z (hlv y hy) (hlv z hz) he⟩, hg⟩
            obtain ⟨hf1, hg1⟩ := hf1
            have hs2 : ∀ k, k < w.heap.size → k ∉ ks → g'.s k = g.s k := fun k hk hm => by
              by_cases hb2 : k ∈ g.bx
              · obtain ⟨b, hb2⟩ := List.getElem?_of_mem hb2
                rw [(hf.boxOf (List.mem_of_getElem? hb2)).1]
                exact (hf'.boxOf (List.mem_of_getElem? (hf'.pre b k hb2))).1
              · exact (hf'.frame k hk hb2 hm).2
            obtain ⟨q1, q2⟩ := hf1.after hf' (fun _ _ => rfl) (fun k hk => by
                obtain ⟨i, a1, _, a3, a4⟩ := m5 k hk
                subst a4
                exact hf.newT i a1 a3) (fun y hy hm => by
                obtain ⟨i, a1, a2, a3, a4⟩ := m5 _ hm
                have hlv : live g st.L st.τ y := by
                  cases y with
                  | l i => exact hy
                  | b i => exact hy
                  | t i => exact ⟨m4 i hy.1, hy.2⟩
                have := hf.inj (.t i) y ⟨a1, a3⟩ hlv a4
                subst this
                exact a2 hy.1) g'.s hs2 (fun _ _ => rfl) hf'.zero hf'.boxB
            have hap : Apart c { g with s := g'.s, bx := g'.bx } st.L τ1 ls := ⟨hnd, fun k hk => by
                rcases (hls k hk).1 with h | h
                · exact .inl (Nat.le_trans hf.entry h)
                · obtain ⟨i, a1, _, a3, a4⟩ := m5 k h
                  subst a4
                  exact hf.newT i a1 a3, fun y hy hm => by
              obtain ⟨hle, hnx⟩ := hls _ hm
              cases y with
              | b i => exact hnx (List.mem_of_getElem? (bx_get (show i < g'.bx.length from hy)))
              | l i =>
                rcases hle with h | h
                · exact absurd (hf.lt (x := .l i) hy) (Nat.not_lt.2 h)
                · obtain ⟨j, a1, a2, a3, a4⟩ := m5 _ h
                  have := hf.inj (.t j) (.l i) ⟨a1, a3⟩ hy a4
                  cases this
              | t i =>
                rcases hle with h | h
                · exact absurd (hf.lt (x := .t i) ⟨m4 i hy.1, hy.2⟩) (Nat.not_lt.2 h)
                · obtain ⟨j, a1, a2, a3, a4⟩ := m5 _ h
                  have := hf.inj (.t j) (.t i) ⟨a1, a3⟩ ⟨m4 i hy.1, hy.2⟩ a4
                  injection this with this
                  subst this
                  exact a2 hy.1⟩
            obtain ⟨g2, p1, p2, p3⟩ := adoptR_spec (g := { g with s := g'.s, bx := g'.bx }) (τ := τ1) hrep q1 hap
            -- as told of the rows ahead
            have hg3 : Gle c g (dom st.L) st.τ.length w g2 (dom st.L) (adoptR τ1 r).2.length w' := hg1.trans (q2.trans p2)
            have : (adoptR τ1 r) = (adoptR τ1 r) := rfl
            exact hK v w' g2 p1 hg3 p3
        · cases hd
      · cases hd
    | false =>
      rw [hm2] at hd
      simp only [cond_false] at hd
      split at hd
      · rename_i es hes
        obtain ⟨hl2, hb2⟩ := borrowL_spec hf hes hlen hargs
        split at hd
        · rename_i r B' hcall
          obtain ⟨⟨fn, h1, h2, h3⟩, hcalls⟩ := hC f (es ++ caps) st.B r B' hcall
          have hex := exec_call (P := c.P) (a := a) ho hb hv h1 h2 h3 w
          unfold Oper.wp
          rw [hex, Oper.upon_enter, hto]
          have hev : Ev g.bx g.s w g.bx (lend g st.L w) w := ⟨fun _ _ h => h, fun k _ => lend_le hf k, fun _ _ _ _ h => h⟩
          have henterL := hf.enter (lend g st.L w) [] (lend_le hf) (lend_zero hf) (lend_box hf) (fun k hk => by cases hk)
          have hargsL : RepOL (RepC g.bx (lend g st.L w) w) (es ++ caps) (cl.args.toList.map a.eval ++ cvs.toList) [] := by
            have := repOL_append (repOL_clean hl2 (fun i e hi => by
              obtain ⟨v, hv, hr, _⟩ := hb2 i e hi
              exact ⟨v, hv, hr⟩)) (caps_clean (s := lend g st.L w) hcl (fun i d hi => (hcr i d hi).mono hev))
            simpa using this
          cases hfl : (Nat.beq fl 1 && r.fresh1) with
          | true =>
            rw [hfl] at hd
            simp only [cond_true] at hd
            split at hd
            · rename_i hcond
              obtain ⟨rfl, hBp⟩ := hcond
              injection hd with hd; injection hd with e1 e2; subst e1; subst e2
              simp only [Bool.and_eq_true] at hfl
              refine Calls.mono (hcalls w { g with s := lend g st.L w } _ [] henterL hargsL List.nodup_nil (fun k hk => by cases hk)) (fun e w' he' => ?_)
              obtain ⟨v, rfl, g', ls, hf', hrep, _, hls⟩ := he'
              have hbe : g'.bx.length = g.bx.length := by rw [← hf'.nB, ← hf.nB]
              have hbx : g'.bx = g.bx := by
                apply List.ext_getElem?
                intro i
                rcases Nat.lt_or_ge i g.bx.length with hi | hi
                · rw [bx_get hi]; exact hf'.pre i _ (bx_get hi)
                · rw [List.getElem?_eq_none hi, List.getElem?_eq_none (by omega)]
              -- the row becomes a box
              have key : ∀ (xs : List D) (k0 cap : Nat) (cs : Array Value) (t : TypeId) (fr : Nat × Nat) (f : Nat → Value), w.heap.size ≤ k0 → xs.length ≤ cap → w'.heap[k0]? = some (.cells cs t fr) → nofr fr cs.size → (∀ (j : Nat) (d : D), xs[j]? = some d → cs[j]? = some (f j) ∧ ∀ bx s, Rep bx s w' d (f j)) →
                  ∃ g2, FS c g2 (st.L ++ [some xs]) st.τ st.B w' ∧ Gle c g (dom st.L) st.τ.length w g2 (dom (st.L ++ [some xs])) st.τ.length w' ∧ RepF c g2 (dom (st.L ++ [some xs])) st.τ.length w' (.lsl st.L.length 0 xs.length 1) (.slice (some ⟨k0, 0, none⟩) xs.length cap) := fun xs k0 cap cs t fr f hk0 hcap hh hnf hc => by
                have hlt0 : k0 < w'.heap.size := (Array.getElem?_eq_some_iff.1 hh).1
                obtain ⟨q1, q2⟩ := hf.after hf' (ks := []) (fun k hk => by cases hk) (fun k hk => by cases hk) (fun y hy hm => by cases hm) (fun k => if k < w.heap.size then g.s k else if k = k0 then 0 else g'.s k) (fun k hk _ => if_pos hk) (fun k hk => by cases hk) (fun k hk => by
                  show (if k < w.heap.size then _ else if k = k0 then 0 else _) = 0
                  rw [if_neg (by have : w.heap.size ≤ w'.heap.size := hf'.entry; omega), if_neg (by omega)]; exact hf'.zero k hk) (fun i ds k hi hk => by
                  obtain ⟨b1, cs, t, fr, b2, b3, b4⟩ := hf'.boxB i ds k hi hk
                  have hk' : k ∈ g.bx := by rw [← hbx]; exact List.mem_of_getElem? hk
                  refine ⟨?_, cs, t, fr, b2, b3, fun j e hj => ?_⟩
                  · show (if k < w.heap.size then _ else _) = 0
                    rw [if_pos (hf.boxOf hk').2]; exact (hf.boxOf hk').1
                  · obtain ⟨u, hu, hr⟩ := b4 j e hj
                    have h1 := List.all_eq_true.1 hBp _ (List.mem_of_getElem? hi)
                    have h2 := List.all_eq_true.1 h1 _ (List.mem_of_getElem? hj)
                    exact ⟨u, hu, plain_rep e h2 hr⟩)
                obtain ⟨p1, p2⟩ := q1.lodge k0 xs (.inl (Nat.le_trans hf.entry hk0)) ⟨by
                    show (if k0 < w.heap.size then _ else if k0 = k0 then 0 else _) = 0
                    rw [if_neg (by omega), if_pos rfl], cs, t, fr, hh, hnf, fun j d hj => by
                    obtain ⟨c1, c2⟩ := hc j d hj
                    exact ⟨f j, c1, .clean _ _ (c2 _ _)⟩⟩ (fun y hy he => by
                    cases y with
                    | l i => have := hf.lt (x := .l i) hy; have he : g.loc i = k0 := he; have : g.loc i < w.heap.size := this; omega
                    | t i => have := hf.lt (x := .t i) hy; have he : g.tk i = k0 := he; have : g.tk i < w.heap.size := this; omega
                    | b i =>
                      have hi : i < g'.bx.length := hy
                      have he : g'.bx.getD i 0 = k0 := he
                      have h1 := (hf.boxOf (show k0 ∈ g.bx by rw [← hbx, ← he]; exact List.mem_of_getElem? (bx_get hi))).2
                      omega)
                refine ⟨_, p1, q2.trans p2, ?_⟩
                have h4 := RepF.lsl (c := c) (g := ({ g with s := fun k => if k < w.heap.size then g.s k else if k = k0 then 0 else g'.s k, bx := g'.bx } : Gh).newL st.L.length k0) (nL := dom (st.L ++ [some xs])) (nT := st.τ.length) (w := w') st.L.length 0 xs.length 1 cap (dom_new _ _) hcap
                have hloc : (({ g with s := fun k => if k < w.heap.size then g.s k else if k = k0 then 0 else g'.s k, bx := g'.bx } : Gh).newL st.L.length k0).loc st.L.length = k0 := by simp [Gh.newL]
                rw [hloc] at h4
                exact h4
              have hk0 : ∀ k, k ∈ ls → w.heap.size ≤ k := fun k hk => (hls k hk).1.resolve_right (fun h => by cases h)
              have hfr := hfl.2
              cases hrep with
              | one _ _ _ hrep =>
                have hr1 : r.row1 = true := by
                  unfold D.fresh1 at hfr
                  split at hfr
                  · cases hrep with
                    | one _ _ _ h => cases h with | clean _ _ h => cases h
                  · exact hfr
                  · cases hfr
                obtain ⟨xs, p, k0, cap, cs, t, fr, f, rfl, rfl, rfl, b1, b2, b3, b4⟩ := row1_inv hr1 hrep
                obtain ⟨g2, c1, c2, c3⟩ := key xs k0 cap cs t fr f (hk0 k0 (by simp)) b1 b2 b3 b4
                exact hK _ w' g2 c1 c2 c3
              | tuple ds vs ks hrep =>
                cases hrep with
                | nil => simp [D.fresh1] at hfr
                | cons d0 v0 k1 ds vs k2 h0 hrest =>
                  simp only [D.fresh1, Bool.and_eq_true] at hfr
                  obtain ⟨xs, p, k0, cap, cs, t, fr, f, rfl, rfl, rfl, b1, b2, b3, b4⟩ := row1_inv hfr.1 h0
                  obtain ⟨g2, c1, c2, c3⟩ := key xs k0 cap cs t fr f (hk0 k0 (by simp)) b1 b2 b3 b4
                  obtain ⟨m1, m2⟩ := repOL_get hrest
                  refine hK _ w' g2 c1 c2 (.tuple _ _ (by simpa using m1) (fun i d hi => ?_))
                  cases i with
                  | zero =>
                    simp at hi; subst hi
                    have : ((Value.slice (some ⟨k0, 0, none⟩) xs.length cap :: vs).toArray).getD 0 Go.undef = .slice (some ⟨k0, 0, none⟩) xs.length cap := by simp [Array.getD_eq_getD_getElem?]
                    rw [this]; exact c3
                  | succ i =>
                    have hi : ds[i]? = some d := by simpa using hi
                    obtain ⟨u, l, hu, hr⟩ := m2 i d hi
                    have : ((Value.slice (some ⟨k0, 0, none⟩) xs.length cap :: vs).toArray).getD (i + 1) Go.undef = u := by simp [Array.getD_eq_getD_getElem?, hu]
                    rw [this]
                    exact .clean _ _ (plain_repC (plain_get hfr.2 hi) hr _ _)
            · cases hd
          | false =>
            rw [hfl] at hd
            simp only [cond_false] at hd
            cases hany : (argsV T st.ρ cl.args.toList ts').any D.isLsl with
            | true =>
              rw [hany] at hd
              simp only [cond_true] at hd
              split at hd
              · rename_i hcond
                obtain ⟨rfl, hpl, hBp⟩ := hcond
                injection hd with hd; injection hd with e1 e2; subst e1; subst e2
                refine Calls.mono (hcalls w { g with s := lend g st.L w } _ [] henterL hargsL List.nodup_nil (fun k hk => by cases hk)) (fun e w' he' => ?_)
                obtain ⟨v, rfl, g', ls, hf', hrep, hnd, hls⟩ := he'
                have hbe : g'.bx.length = g.bx.length := by rw [← hf'.nB, ← hf.nB]
                have hbx : g'.bx = g.bx := by
                  apply List.ext_getElem?
                  intro i
                  rcases Nat.lt_or_ge i g.bx.length with hi | hi
                  · rw [bx_get hi]; exact hf'.pre i _ (bx_get hi)
                  · rw [List.getElem?_eq_none hi, List.getElem?_eq_none (by omega)]
                obtain ⟨q1, q2⟩ := hf.after hf' (ks := []) (fun k hk => by cases hk) (fun k hk => by cases hk) (fun y hy hm => by cases hm) (fun k => if k < w.heap.size then g.s k else g'.s k) (fun k hk _ => if_pos hk) (fun k hk => by cases hk) (fun k hk => by
                  show (if k < w.heap.size then _ else _) = 0
                  rw [if_neg (by have : w.heap.size ≤ w'.heap.size := hf'.entry; omega)]; exact hf'.zero k hk) (fun i ds k hi hk => by
                  obtain ⟨b1, cs, t, fr, b2, b3, b4⟩ := hf'.boxB i ds k hi hk
                  have hk' : k ∈ g.bx := by rw [← hbx]; exact List.mem_of_getElem? hk
                  refine ⟨?_, cs, t, fr, b2, b3, fun j e hj => ?_⟩
                  · show (if k < w.heap.size then _ else _) = 0
                    rw [if_pos (hf.boxOf hk').2]; exact (hf.boxOf hk').1
                  · obtain ⟨u, hu, hr⟩ := b4 j e hj
                    have h1 := List.all_eq_true.1 hBp _ (List.mem_of_getElem? hi)
                    have h2 := List.all_eq_true.1 h1 _ (List.mem_of_getElem? hj)
                    exact ⟨u, hu, plain_rep e h2 hr⟩)
                have hk0 : ∀ k, k ∈ ls → w.heap.size ≤ k := fun k hk => (hls k hk).1.resolve_right (fun h => by cases h)
                have hap : Apart c { g with s := fun k => if k < w.heap.size then g.s k else g'.s k, bx := g'.bx } st.L st.τ ls := ⟨hnd, fun k hk => .inl (Nat.le_trans hf.entry (hk0 k hk)), fun y hy hm => by
                  have hle := hk0 _ hm
                  cases y with
                  | b i => exact (hls _ hm).2 (List.mem_of_getElem? (bx_get (show i < g'.bx.length from hy)))
                  | l i => exact absurd (hf.lt (x := .l i) hy) (Nat.not_lt.2 hle)
                  | t i => exact absurd (hf.lt (x := .t i) hy) (Nat.not_lt.2 hle)⟩
                have hrep2 := free_repR (bx' := g'.bx) (s' := fun k => if k < w.heap.size then g.s k else g'.s k) hpl hrep (fun k hk => by
                  have := hk0 k hk
                  show (if k < w.heap.size then _ else _) = _
                  rw [if_neg (by omega)])
                obtain ⟨g2, p1, p2, p3⟩ := adoptR_spec (g := { g with s := fun k => if k < w.heap.size then g.s k else g'.s k, bx := g'.bx }) hrep2 q1 hap
                exact hK v w' g2 p1 (q2.trans p2) p3
              · cases hd
            | false =>
              rw [hany] at hd
              simp only [cond_false] at hd
              injection hd with hd; injection hd with e1 e2; subst e1; subst e2
              have henter := hf.enter g.s [] (fun _ => Nat.le_refl _) hf.zero (fun b k hb2 => (hf.boxOf (List.mem_of_getElem? hb2)).1) (fun k hk => by cases hk)
              have hargs0 : RepOL (RepC g.bx g.s w) (es ++ caps) (cl.args.toList.map a.eval ++ cvs.toList) [] := by
                have := repOL_append (repOL_clean hl2 (fun i e hi => by
                  obtain ⟨v, hv, _, hr⟩ := hb2 i e hi
                  exact ⟨v, hv, hr hany⟩)) (caps_clean hcl hcr)
                simpa using this
              refine Calls.mono (hcalls w g _ [] henter hargs0 List.nodup_nil (fun k hk => by cases hk)) (fun e w' he' => ?_)
              obtain ⟨v, rfl, g', ls, hf', hrep, hnd, hls⟩ := he'
              have hs2 : ∀ k, k < w.heap.size → k ∉ ([] : List Nat) → g'.s k = g.s k := fun k hk _ => by
                by_cases hb2 : k ∈ g.bx
                · obtain ⟨b, hb2⟩ := List.getElem?_of_mem hb2
                  rw [(hf.boxOf (List.mem_of_getElem? hb2)).1]
                  exact (hf'.boxOf (List.mem_of_getElem? (hf'.pre b k hb2))).1
                · exact (hf'.frame k hk hb2 (fun hm => by cases hm)).2
              obtain ⟨q1, q2⟩ := hf.after hf' (fun _ _ => rfl) (fun k hk => by cases hk) (fun y hy hm => by cases hm) g'.s hs2 (fun k hk => by cases hk) hf'.zero hf'.boxB
              have hap : Apart c { g with s := g'.s, bx := g'.bx } st.L st.τ ls := ⟨hnd, fun k hk => by
                rcases (hls k hk).1 with h | h
                · exact .inl (Nat.le_trans hf.entry h)
                · exact absurd h (List.not_mem_nil), fun y hy hm => by
                obtain ⟨hle, hnx⟩ := hls _ hm
                have hle := hle.resolve_right (fun h => by cases h)
                cases y with
                | b i => exact hnx (List.mem_of_getElem? (bx_get (show i < g'.bx.length from hy)))
                | l i => exact absurd (hf.lt (x := .l i) hy) (Nat.not_lt.2 hle)
                | t i => exact absurd (hf.lt (x := .t i) hy) (Nat.not_lt.2 hle)⟩
              obtain ⟨g2, p1, p2, p3⟩ := adoptR_spec (g := { g with s := g'.s, bx := g'.bx }) hrep q1 hap
              exact hK v w' g2 p1 (q2.trans p2) p3
        · cases hd
      · cases hd
  · cases hd

end Go.Proofs.YtbbbhalmlboapaaDoor.V
