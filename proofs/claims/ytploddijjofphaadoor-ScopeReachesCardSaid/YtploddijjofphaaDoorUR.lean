/-
What a call takes and hands back; the operation 'call'.
-/
import Derived.Test.YtploddijjofphaaDoorUQ
namespace Go.Proofs.YtploddijjofphaaDoor.V
set_option linter.unusedSimpArgs false
set_option linter.unusedVariables false
open Go Go.RowKit

variable {c : Cx} {g : Gh} {nL : Nat → Prop} {nT : Nat} {w : World}

/-- What a call handed back: 'ks': the blocks of its rows that are the caller's own from now on, from left to right. -/
inductive RepO (bx : List Nat) (s : Nat → Nat) (w : World) : D → Value → List Nat → Prop
  | clean (d : D) (v : Value) (h : Rep bx s w d v) : RepO bx s w d v []
  | fresh (sz : Nat) (xs : List D) (k cap : Nat) (cs : Array Value) (t : TypeId) (h : Rep bx s w (.vec sz xs .none) (.slice (some ⟨k, 0, none⟩) xs.length cap)) (hs : s k = xs.length * sz)
      (hh : w.heap[k]? = some (.cells cs t (0, 0))) (hc : cs.size = cap * sz) : RepO bx s w (.vec sz xs .fresh) (.slice (some ⟨k, 0, none⟩) xs.length cap) [k]
  | tight (sz : Nat) (v : Value) (h : Rep bx s w (.vec sz [] .exact) v) : RepO bx s w (.vec sz [] .fresh) v []

/-- A list of results, one behind the other. -/
inductive RepOL (R : D → Value → List Nat → Prop) : List D → List Value → List Nat → Prop
  | nil : RepOL R [] [] []
  | cons (d : D) (v : Value) (ks : List Nat) (ds : List D) (vs : List Value) (ls : List Nat) (h : R d v ks) (hr : RepOL R ds vs ls) : RepOL R (d :: ds) (v :: vs) (ks ++ ls)

inductive RepC (bx : List Nat) (s : Nat → Nat) (w : World) : D → Value → List Nat → Prop
  | one (d : D) (v : Value) (ks : List Nat) (h : RepO bx s w d v ks) : RepC bx s w d v ks
  | agg (ds : List D) (vs : List Value) (ks : List Nat) (h : RepOL (RepO bx s w) ds vs ks) : RepC bx s w (.agg ds) (.agg vs.toArray) ks

inductive RepR (bx : List Nat) (s : Nat → Nat) (w : World) : D → Value → List Nat → Prop
  | one (d : D) (v : Value) (ks : List Nat) (h : RepC bx s w d v ks) : RepR bx s w d v ks
  | tuple (ds : List D) (vs : List Value) (ks : List Nat) (h : RepOL (RepC bx s w) ds vs ks) : RepR bx s w (.tuple ds) (.tuple vs.toArray) ks

/-- The frame of a call that begins here: ks: the rows that it is handed. -/
def Cx.at_ (c : Cx) (w : World) (g : Gh) (ks : List Nat) : Cx := { c with we := w, s0 := g.s, bx := g.bx, mv := ks }

/-- What the callees of this interpreter do, the machine's do. -/
def CallOK (c : Cx) (C : Callees) : Prop :=
  ∀ f args B r B', C f args B = some (r, B') →
    (∃ fn, c.P.funcs[f]? = some fn ∧ (fn.name == "runtime.NumGoroutine") = false ∧ fn.body.isNone = false) ∧
    ∀ (w : World) (g : Gh) (vs : List Value) (ks : List Nat), FS (c.at_ w g ks) g [] [] B w → RepOL (RepC g.bx g.s w) args vs ks → ks.Nodup → (∀ k, k ∈ ks → k ∉ g.bx) →
      Calls c.P f vs.toArray w fun e w' => ∃ v, e = .returned v ∧ ∃ (g' : Gh) (ls : List Nat), FS (c.at_ w g ks) g' [] [] B' w' ∧ RepR g'.bx g'.s w' r v ls ∧ ls.Nodup ∧ ∀ k, k ∈ ls → (w.heap.size ≤ k ∨ k ∈ ks) ∧ k ∉ g'.bx

/-- At a call's begin. -/
theorem FS.enter {L : List (Option (List D))} {τ : List Bool} {B : List (List D)} (h : FS c g L τ B w) (s : Nat → Nat) (ks : List Nat) (h1 : ∀ k, g.s k ≤ s k) (h2 : ∀ k, w.heap.size ≤ k → s k = 0) (h3 : ∀ (b k : Nat), g.bx[b]? = some k → s k = 0)
    (hks : ∀ k, k ∈ ks → c.base ≤ k ∧ k < w.heap.size) :
    FS (c.at_ w { g with s := s } ks) { g with s := s } [] [] B w := by
  have hev : Ev g.bx g.s w g.bx s w := ⟨fun _ _ h => h, fun k _ => h1 k, fun _ _ _ _ hc => hc⟩
  refine ⟨h.below, Nat.le_refl _, Nat.le_trans h.baseLe h.entry, h.nB, fun _ _ h => h, h2, fun k _ _ _ => ⟨rfl, rfl⟩, rfl, rfl, rfl, fun i ds hi => (by simp at hi), fun i hi => (by simp at hi), fun b k hb => .inr (List.mem_of_getElem? hb), fun k hk => ?_, fun k hk => ⟨(hks k hk).2, Nat.le_refl _, fun _ _ _ h => h⟩, fun i ds hi => (by simp at hi), fun i ds k hi hk => ?_, fun i hi => (by simp at hi), fun x y hx hy he => ?_⟩
  · rcases hk with hk | hk
    · obtain ⟨b, hb⟩ := List.getElem?_of_mem hk
      exact h.baseB hb
    · exact (hks k hk).1
  · exact (h.boxB i ds k hi hk).mono (fun _ _ hr => hr.mono hev) (by rw [(h.boxB i ds k hi hk).1]; exact h3 i k hk) rfl
  · cases x with
    | l i => obtain ⟨ds, hd⟩ := hx; simp at hd
    | t i => simp [live] at hx
    | b i =>
      cases y with
      | l i => obtain ⟨ds, hd⟩ := hy; simp at hd
      | t i => simp [live] at hy
      | b j => exact h.inj (.b i) (.b j) hx hy he

/-- Behind a call. -/
theorem FS.after {L : List (Option (List D))} {τ : List Bool} {B B' : List (List D)} {w' : World} {s1 : Nat → Nat} {g' : Gh} {ks : List Nat} (h : FS c g L τ B w) (h' : FS (c.at_ w { g with s := s1 } ks) g' [] [] B' w') (h1 : ∀ k, k ∈ ks → s1 k = g.s k)
    (hk0 : ∀ k, k ∈ ks → c.we.heap.size ≤ k ∨ k ∈ c.mv) (hkl : ∀ x, live g L τ x → blk g x ∉ ks)
    (s2 : Nat → Nat) (hs : ∀ k, k < w.heap.size → k ∉ ks → s2 k = g.s k) (hsk : ∀ k, k ∈ ks → s2 k = g'.s k) (hs0 : ∀ k, w'.heap.size ≤ k → s2 k = 0) (hB : ∀ (i : Nat) ds k, B'[i]? = some ds → g'.bx[i]? = some k → BoxAt (Rep g'.bx s2 w') s2 w' k ds) :
    FS c { g with s := s2, bx := g'.bx } L τ B' w' ∧ Gle c g (dom L) τ.length w { g with s := s2, bx := g'.bx } (dom L) τ.length w' := by
  have hsz : w.heap.size ≤ w'.heap.size := h'.entry
  have hpre : ∀ (b k : Nat), g.bx[b]? = some k → g'.bx[b]? = some k := h'.pre
  have hfr : ∀ k, k < w.heap.size → k ∉ g.bx → k ∉ ks → w'.heap[k]? = w.heap[k]? := fun k hk hb hm => (h'.frame k hk hb hm).1
  have hev : Ev g.bx g.s w g'.bx s2 w' := by
    refine ⟨hpre, fun k hk => ?_, fun k o v ho hc => ?_⟩
    · by_cases hm : k ∈ ks
      · obtain ⟨_, a2, _⟩ := h'.mvS k hm
        rw [hsk k hm, ← h1 k hm]; exact a2
      · rw [hs k hk hm]; exact Nat.le_refl _
    · have hk : k < w.heap.size := World.block_lt_of_cell? w _ hc
      by_cases hm : k ∈ ks
      · obtain ⟨_, _, a3⟩ := h'.mvS k hm
        exact a3 o v (by show o < s1 k; rw [h1 k hm]; exact ho) hc
      · by_cases hb : k ∈ g.bx
        · obtain ⟨b, hb⟩ := List.getElem?_of_mem hb
          obtain ⟨ds, _, h0, _⟩ := h.boxAt hb
          omega
        · rw [World.cell?_of_block (w := w) (hfr k hk hb hm)]; exact hc
  have hg : Gle c g (dom L) τ.length w { g with s := s2, bx := g'.bx } (dom L) τ.length w' := ⟨hev, fun _ h => h, Nat.le_refl _, fun _ _ => rfl, fun _ _ => rfl, fun _ _ => rfl, fun _ _ => rfl, fun _ _ => rfl, hsz⟩
  have hnb : ∀ x, live g L τ x → (∀ i, x ≠ .b i) → blk g x ∉ g.bx := fun x hx hne hm => by
    obtain ⟨b, hb⟩ := List.getElem?_of_mem hm
    exact hne b (h.inj x (.b b) hx (lt_of_get hb) (bx_getD hb).symm)
  have hlive : ∀ x, live { g with s := s2, bx := g'.bx } L τ x → (live g L τ x ∧ blk { g with s := s2, bx := g'.bx } x = blk g x) ∨ ∃ i, x = .b i ∧ i < g'.bx.length ∧ w.heap.size ≤ blk { g with s := s2, bx := g'.bx } x := fun x hx => by
    cases x with
    | l i => exact .inl ⟨hx, rfl⟩
    | t i => exact .inl ⟨hx, rfl⟩
    | b i =>
      have hx : i < g'.bx.length := hx
      rcases Nat.lt_or_ge i g.bx.length with hi | hi
      · refine .inl ⟨hi, ?_⟩
        have := hpre i _ (bx_get hi)
        exact bx_getD this
      · refine .inr ⟨i, rfl, hx, ?_⟩
        have hk := bx_get hx
        rcases h'.newB i _ hk with h1 | h1
        · exact h1
        · exfalso
          obtain ⟨b, hb⟩ := List.getElem?_of_mem (show g'.bx.getD i 0 ∈ g.bx from h1)
          have hb' := hpre b _ hb
          have := h'.inj (.b i) (.b b) hx (lt_of_get hb') (bx_getD hb').symm
          injection this with this
          have := lt_of_get hb
          omega
  refine ⟨⟨h'.below, Nat.le_trans h.entry hsz, h.baseLe, h'.nB, fun b k hb => hpre b k (h.pre b k hb), hs0, fun k hk hb hm => ?_, h'.os.trans h.os, h'.tape.trans h.tape, h'.output.trans h.output, h.newL, h.newT, fun b k hb => ?_, h.old, h.mvS.gle hg, fun i ds hi => ?_, hB, fun i hi hw => ?_, fun x y hx hy he => ?_⟩, hg⟩
  · have hlt := Nat.lt_of_lt_of_le hk h.entry
    have hkn : k ∉ ks := fun hm' => by rcases hk0 k hm' with h1 | h1; omega; exact hm h1
    have hbn : k ∉ g.bx := fun hb' => by
      obtain ⟨b, hb2⟩ := List.getElem?_of_mem hb'
      rcases h.newB b k hb2 with h1 | h1
      · omega
      · exact hb h1
    refine ⟨(hfr k hlt hbn hkn).trans (h.frame k hk hb hm).1, ?_⟩
    show s2 k = _
    rw [hs k hlt hkn]; exact (h.frame k hk hb hm).2
  · rcases h'.newB b k hb with h1 | h1
    · exact .inl (Nat.le_trans h.entry h1)
    · obtain ⟨b2, hb2⟩ := List.getElem?_of_mem (show k ∈ g.bx from h1)
      exact h.newB b2 k hb2
  · have hx : live g L τ (.l i) := ⟨ds, hi⟩
    have hlt := h.lt hx
    have h2 := hnb _ hx (fun j e => by cases e)
    have h3 := hkl _ hx
    exact (h.boxL i ds hi).mono (fun _ _ hr => hr.mono hg) (hs _ hlt h3) (hfr _ hlt h2 h3)
  · have hx : live g L τ (.t i) := ⟨hi, hw⟩
    have hlt := h.lt hx
    have h2 := hnb _ hx (fun j e => by cases e)
    have h3 := hkl _ hx
    obtain ⟨b1, cs, t, b2, b3⟩ := h.tok i hi hw
    exact ⟨(hs _ hlt h3).trans b1, cs, t, (hfr _ hlt h2 h3).trans b2, b3⟩
  · rcases hlive x hx with ⟨a1, a2⟩ | ⟨i, rfl, a1, a2⟩ <;> rcases hlive y hy with ⟨b1, b2⟩ | ⟨j, rfl, b1, b2⟩
    · rw [a2, b2] at he; exact h.inj x y a1 b1 he
    · rw [a2] at he; have := h.lt a1; omega
    · rw [b2] at he; have := h.lt b1; omega
    · exact h'.inj (.b i) (.b j) a1 b1 he

/-- A row that a call handed back is a box of this frame's own from now on. -/
theorem FS.lodge {L : List (Option (List D))} {τ : List Bool} {B : List (List D)} (h : FS c g L τ B w) (k : Nat) (xs : List D) (hk : c.we.heap.size ≤ k ∨ k ∈ c.mv) (hb : BoxAt (RepF c g (dom L) τ.length w) g.s w k xs)
    (hne : ∀ x, live g L τ x → blk g x ≠ k) :
    FS c (g.newL L.length k) (L ++ [some xs]) τ B w ∧ Gle c g (dom L) τ.length w (g.newL L.length k) (dom (L ++ [some xs])) τ.length w := by
  have hnd : ¬ dom L L.length := fun h => Nat.lt_irrefl _ (dom_lt h)
  rw [← ins_len]
  have hloc : ∀ i, dom L i → (g.newL L.length k).loc i = g.loc i := fun i hi => by
    have : i ≠ L.length := fun e => hnd (e ▸ hi)
    simp [Gh.newL, this]
  have hg : Gle c g (dom L) τ.length w (g.newL L.length k) (dom (ins L L.length xs)) τ.length w :=
    ⟨Ev.refl _ _ _, fun i hi => dom_ins.2 (.inr hi), Nat.le_refl _, hloc, fun _ _ => rfl, fun _ _ => rfl, fun _ _ => rfl, fun _ _ => rfl, Nat.le_refl _⟩
  have hblk : ∀ x, live g L τ x → blk (g.newL L.length k) x = blk g x := fun x hx => by
    cases x with
    | l i => exact hloc i hx
    | t i => rfl
    | b i => rfl
  have hbn : blk (g.newL L.length k) (.l L.length) = k := by simp [blk, Gh.newL]
  have hlive : ∀ x, live (g.newL L.length k) (ins L L.length xs) τ x → live g L τ x ∨ x = .l L.length := fun x hx => live_ins (g := g) (by cases x <;> exact hx)
  refine ⟨⟨h.below, h.entry, h.baseLe, h.nB, h.pre, h.zero, h.frame, h.os, h.tape, h.output,
    fun i es hi => ?_, h.newT, h.newB, h.old, h.mvS.gle hg, fun i es hi => ?_, h.boxB, h.tok, fun x y hx hy he => ?_⟩, hg⟩
  · rcases ins_get.1 hi with ⟨rfl, _⟩ | ⟨_, hi'⟩
    · show _ ≤ blk _ (.l L.length) ∨ blk _ (.l L.length) ∈ _
      rw [hbn]; exact hk
    · rw [hloc i ⟨es, hi'⟩]; exact h.newL i es hi'
  · rcases ins_get.1 hi with ⟨rfl, rfl⟩ | ⟨_, hi'⟩
    · show BoxAt _ _ _ (blk (g.newL L.length k) (.l L.length)) _
      rw [hbn]
      exact hb.mono (fun _ _ hr => hr.mono hg) rfl rfl
    · rw [hloc i ⟨es, hi'⟩]
      exact (h.boxL i es hi').mono (fun _ _ hr => hr.mono hg) rfl rfl
  · rcases hlive x hx with hx | rfl <;> rcases hlive y hy with hy | rfl
    · rw [hblk x hx, hblk y hy] at he; exact h.inj x y hx hy he
    · rw [hblk x hx, hbn] at he; exact absurd he (hne x hx)
    · rw [hblk y hy, hbn] at he; exact absurd he.symm (hne y hy)
    · rfl

/-- Of the rows handed back: none is live yet. -/
def Apart (c : Cx) (g : Gh) (L : List (Option (List D))) (τ : List Bool) (ks : List Nat) : Prop :=
  ks.Nodup ∧ (∀ k, k ∈ ks → c.we.heap.size ≤ k ∨ k ∈ c.mv) ∧ ∀ x, live g L τ x → blk g x ∉ ks

theorem adopt_one {L : List (Option (List D))} {τ : List Bool} {B : List (List D)} {d : D} {v : Value} {ks ls : List Nat} (h : FS c g L τ B w) (hr : RepO g.bx g.s w d v ks) (ha : Apart c g L τ (ks ++ ls)) :
    ∃ g', FS c g' L (adopt τ d).2 B w ∧ Gle c g (dom L) τ.length w g' (dom L) (adopt τ d).2.length w ∧ (g'.s = g.s ∧ g'.bx = g.bx) ∧ RepF c g' (dom L) (adopt τ d).2.length w (adopt τ d).1 v ∧ Apart c g' L (adopt τ d).2 ls := by
  cases hr with
  | clean _ _ hr =>
    have e : adopt τ d = (d, τ) := by
      cases hr with
      | nilv _ _ hp => rcases hp with rfl | rfl <;> rfl
      | vec sz xs p a cap vs hp => rcases hp with rfl | ⟨rfl, _⟩ | rfl <;> rfl
      | _ => rfl
    rw [e]
    exact ⟨g, h, Gle.refl _ _ _ _ _, ⟨rfl, rfl⟩, .clean _ _ hr, by simpa using ha⟩
  | tight sz _ hr =>
    obtain ⟨b1, b2⟩ := h.name
    obtain ⟨a1, a2, a3⟩ := ha
    refine ⟨_, b1, b2, ⟨rfl, rfl⟩, .tight _ _ _ (by simp [adopt]) hr, a1, a2, fun x hx => ?_⟩
    cases x with
    | l i => exact a3 (.l i) hx
    | b i => exact a3 (.b i) hx
    | t i =>
      obtain ⟨c1, c2⟩ := hx
      rcases tok_snoc c1 with hi | rfl
      · have hlt := lt_of_get hi
        simp only [Gh.newT, Nat.ne_of_lt hlt, if_false] at c2
        have := a3 (.t i) ⟨hi, c2⟩
        simpa [blk, Gh.newT, Nat.ne_of_lt hlt] using this
      · simp [Gh.newT] at c2
  | fresh sz xs k cap cs t hr hs hh hc =>
    obtain ⟨a1, a2, a3⟩ := ha
    have hk : k ∉ ls := (List.nodup_cons.1 a1).1
    obtain ⟨b1, b2⟩ := h.adopt k (xs.length * sz) (cap * sz) (a2 k (by simp)) hs ⟨cs, t, hh, hc⟩ (fun x hx he => a3 x hx (by rw [he]; simp))
    refine ⟨_, b1, b2, ⟨rfl, rfl⟩, ?_, (List.nodup_cons.1 a1).2, fun q hq => a2 q (by simp [hq]), fun x hx => ?_⟩
    · have htk : (g.newT τ.length k (xs.length * sz) (cap * sz)).tk τ.length = k := by simp [Gh.newT]
      have := RepF.own (c := c) (g := g.newT τ.length k (xs.length * sz) (cap * sz)) (nL := dom L) (nT := (τ ++ [true]).length) (w := w) τ.length sz xs cap (by simp) (by rw [htk]; exact hr) (by simp [Gh.newT]) (by simp [Gh.newT]) (by simp [Gh.newT])
      rw [htk] at this; exact this
    · cases x with
      | l i => exact fun hm => a3 (.l i) hx (by simp only [List.mem_append]; exact .inr hm)
      | b i => exact fun hm => a3 (.b i) hx (by simp only [List.mem_append]; exact .inr hm)
      | t i =>
        obtain ⟨c1, c2⟩ := hx
        rcases tok_snoc c1 with hi | rfl
        · have hlt := lt_of_get hi
          simp only [Gh.newT, Nat.ne_of_lt hlt, if_false] at c2
          have := a3 (.t i) ⟨hi, c2⟩
          intro hm
          apply this
          have e : blk (g.newT τ.length k (xs.length * sz) (cap * sz)) (.t i) = blk g (.t i) := by simp [blk, Gh.newT, Nat.ne_of_lt hlt]
          rw [e] at hm
          simp [hm]
        · have e : blk (g.newT τ.length k (xs.length * sz) (cap * sz)) (.t τ.length) = k := by simp [blk, Gh.newT]
          rw [e]; exact hk

end Go.Proofs.YtploddijjofphaaDoor.V
