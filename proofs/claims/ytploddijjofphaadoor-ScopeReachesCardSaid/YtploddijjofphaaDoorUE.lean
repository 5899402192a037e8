/-
What a store, and an append in place, leave of a frame's memory.
-/
import Derived.Test.YtploddijjofphaaDoorUD
namespace Go.Proofs.YtploddijjofphaaDoor.V
set_option linter.unusedSimpArgs false
set_option linter.unusedVariables false
open Go Go.RowKit

variable {c : Cx} {g : Gh} {L : List (Option (List D))} {τ : List Bool} {B : List (List D)} {w : World}

theorem live_set_L {i : Nat} {ds es : List D} (hi : L[i]? = some (some ds)) {x : Nm} (h : live g (L.set i (some es)) τ x) : live g L τ x := by
  cases x with
  | l j =>
    obtain ⟨fs, hf⟩ := h
    by_cases hij : i = j
    · subst hij; exact ⟨ds, hi⟩
    · rw [List.getElem?_set_ne hij] at hf; exact ⟨fs, hf⟩
  | t j => exact h
  | b j => exact h

theorem dom_set {i : Nat} {ds : List D} (hi : L[i]? = some (some ds)) (es : List D) (k : Nat) (h : dom L k) : dom (L.set i (some es)) k := by
  by_cases hik : i = k
  · subst hik
    exact ⟨es, by rw [List.getElem?_set_self (List.getElem?_eq_some_iff.1 hi).1]⟩
  · obtain ⟨fs, hf⟩ := h
    exact ⟨fs, by rw [List.getElem?_set_ne hik]; exact hf⟩

theorem dom_set_inv {i k : Nat} {ds es : List D} (hi : L[i]? = some (some ds)) (h : dom (L.set i (some es)) k) : dom L k := by
  by_cases hik : i = k
  · subst hik; exact ⟨ds, hi⟩
  · obtain ⟨fs, hf⟩ := h
    rw [List.getElem?_set_ne hik] at hf
    exact ⟨fs, hf⟩

theorem ev_at (bx : List Nat) (s : Nat → Nat) (w w' : World) (k : Nat) (hs : s k = 0) (hh : ∀ q, q ≠ k → w'.heap[q]? = w.heap[q]?) : Ev bx s w bx s w' := by
  refine ⟨fun _ _ h => h, fun _ _ => Nat.le_refl _, fun q o v ho hc => ?_⟩
  have hq : q ≠ k := by rintro rfl; omega
  rw [World.cell?_of_block (w := w) (hh q hq)]; exact hc

theorem FS.set_box (h : FS c g L τ B w) {i : Nat} {ds : List D} (hi : L[i]? = some (some ds)) (w' : World) (hh : ∀ q, q ≠ g.loc i → w'.heap[q]? = w.heap[q]?) (hsz : w'.heap.size = w.heap.size)
    (ho : w'.os = w.os) (ht : w'.tape = w.tape) (hp : w'.output = w.output) (es : List D)
    (hb : ∃ (cs : Array Value) (t : TypeId) (fr : Nat × Nat), w'.heap[g.loc i]? = some (.cells cs t fr) ∧ nofr fr cs.size ∧ ∀ (j : Nat) (d : D), es[j]? = some d → ∃ v : Value, cs[j]? = some v ∧ RepF c g (dom L) τ.length w d v) :
    FS c g (L.set i (some es)) τ B w' ∧ Gle c g (dom L) τ.length w g (dom (L.set i (some es))) τ.length w' := by
  have hs0 : g.s (g.loc i) = 0 := (h.boxL i ds hi).1
  have hg : Gle c g (dom L) τ.length w g (dom (L.set i (some es))) τ.length w' :=
    ⟨ev_at _ _ _ _ _ hs0 hh, dom_set hi es, Nat.le_refl _, fun _ _ => rfl, fun _ _ => rfl, fun _ _ => rfl, fun _ _ => rfl, fun _ _ => rfl, by omega⟩
  have hne : ∀ x, live g L τ x → x ≠ .l i → blk g x ≠ g.loc i := fun x hx hxi he => hxi (h.inj x (.l i) hx ⟨ds, hi⟩ he)
  have hge := h.newL i ds hi
  have hbase := h.baseL hi
  refine ⟨⟨⟨ho.trans h.below.os, ht.trans h.below.tape, hp.trans h.below.output, by have := h.below.size; omega, fun k hk => by rw [hh k (by omega)]; exact h.below.block k hk⟩,
    by have := h.entry; omega, h.baseLe, h.nB, h.pre, fun k hk => h.zero k (by omega), fun k hk hb hm => by rw [hh k (fun e => by subst e; rcases hge with h1 | h1; omega; exact hm h1)]; exact h.frame k hk hb hm, ho.trans h.os, ht.trans h.tape, hp.trans h.output,
    fun j fs hj => ?_, h.newT, h.newB, h.old, h.mvS.gle hg, fun j fs hj => ?_, fun j fs k hj hk => ?_, fun j hj hw => ?_, fun x y hx hy he => h.inj x y (live_set_L hi hx) (live_set_L hi hy) he⟩, hg⟩
  · by_cases hij : i = j
    · subst hij; exact hge
    · rw [List.getElem?_set_ne hij] at hj; exact h.newL j fs hj
  · by_cases hij : i = j
    · subst hij
      have hlt := lt_of_get hi
      rw [List.getElem?_set_self hlt] at hj
      simp at hj; subst hj
      obtain ⟨cs, t, fr, h1, h2, h3⟩ := hb
      refine ⟨hs0, cs, t, fr, h1, h2, fun q d hq => ?_⟩
      obtain ⟨v, hv, hrv⟩ := h3 q d hq
      exact ⟨v, hv, hrv.mono hg⟩
    · rw [List.getElem?_set_ne hij] at hj
      exact (h.boxL j fs hj).mono (fun _ _ hr => hr.mono hg) rfl (hh _ (hne (.l j) ⟨fs, hj⟩ (by intro e; injection e with e; exact hij e.symm)))
  · have hn := hne (.b j) (lt_of_get hk) (by intro e; injection e)
    rw [show blk g (.b j) = k from bx_getD hk] at hn
    exact (h.boxB j fs k hj hk).mono (fun _ _ hr => hr.mono hg.ev) rfl (hh _ hn)
  · obtain ⟨h1, cs, t, h2, h3⟩ := h.tok j hj hw
    exact ⟨h1, cs, t, (hh _ (hne (.t j) ⟨hj, hw⟩ (by intro e; injection e))).trans h2, h3⟩

theorem FS.set_glob (h : FS c g L τ B w) {i k0 : Nat} {ds : List D} (hi : B[i]? = some ds) (hk0 : g.bx[i]? = some k0) (w' : World) (hh : ∀ q, q ≠ k0 → w'.heap[q]? = w.heap[q]?) (hsz : w'.heap.size = w.heap.size)
    (ho : w'.os = w.os) (ht : w'.tape = w.tape) (hp : w'.output = w.output) (es : List D)
    (hb : ∃ (cs : Array Value) (t : TypeId) (fr : Nat × Nat), w'.heap[k0]? = some (.cells cs t fr) ∧ nofr fr cs.size ∧ ∀ (j : Nat) (d : D), es[j]? = some d → ∃ v : Value, cs[j]? = some v ∧ Rep g.bx g.s w d v) :
    FS c g L τ (B.set i es) w' ∧ Gle c g (dom L) τ.length w g (dom L) τ.length w' := by
  have hs0 : g.s k0 = 0 := (h.boxB i ds k0 hi hk0).1
  have hlt := lt_of_get hi
  have hltx := lt_of_get hk0
  have ek : blk g (.b i) = k0 := bx_getD hk0
  have hg : Gle c g (dom L) τ.length w g (dom L) τ.length w' :=
    ⟨ev_at _ _ _ _ _ hs0 hh, fun _ h => h, Nat.le_refl _, fun _ _ => rfl, fun _ _ => rfl, fun _ _ => rfl, fun _ _ => rfl, fun _ _ => rfl, by omega⟩
  have hne : ∀ x, live g L τ x → x ≠ .b i → blk g x ≠ k0 := fun x hx hxi he => hxi (h.inj x (.b i) hx hltx (he.trans ek.symm))
  have hge := h.newB i k0 hk0
  have hbase := h.baseB hk0
  refine ⟨⟨⟨ho.trans h.below.os, ht.trans h.below.tape, hp.trans h.below.output, by have := h.below.size; omega, fun k hk => by rw [hh k (by omega)]; exact h.below.block k hk⟩,
    by have := h.entry; omega, h.baseLe, by simpa using h.nB, h.pre, fun k hk => h.zero k (by omega), fun k hk hbb hm => ?_, ho.trans h.os, ht.trans h.tape, hp.trans h.output,
    h.newL, h.newT, h.newB, h.old, h.mvS.gle hg, fun j fs hj => ?_, fun j fs k hj hk => ?_, fun j hj hw => ?_, h.inj⟩, hg⟩
  · rw [hh k (fun e => by subst e; rcases hge with h1 | h1; omega; exact hbb h1)]; exact h.frame k hk hbb hm
  · exact (h.boxL j fs hj).mono (fun _ _ hr => hr.mono hg) rfl (hh _ (hne (.l j) ⟨fs, hj⟩ (by intro e; injection e)))
  · by_cases hij : i = j
    · subst hij
      rw [hk0] at hk
      injection hk with hk; subst hk
      rw [List.getElem?_set_self hlt] at hj
      simp at hj; subst hj
      obtain ⟨cs, t, fr, h1, h2, h3⟩ := hb
      refine ⟨hs0, cs, t, fr, h1, h2, fun q d hq => ?_⟩
      obtain ⟨v, hv, hrv⟩ := h3 q d hq
      exact ⟨v, hv, hrv.mono hg.ev⟩
    · rw [List.getElem?_set_ne hij] at hj
      have hn := hne (.b j) (lt_of_get hk) (by intro e; injection e with e; exact hij e.symm)
      rw [show blk g (.b j) = k from bx_getD hk] at hn
      exact (h.boxB j fs k hj hk).mono (fun _ _ hr => hr.mono hg.ev) rfl (hh _ hn)
  · obtain ⟨h1, cs, t, h2, h3⟩ := h.tok j hj hw
    exact ⟨h1, cs, t, (hh _ (hne (.t j) ⟨hj, hw⟩ (by intro e; injection e))).trans h2, h3⟩

theorem live_shut {i : Nat} {x : Nm} (h : live g L (τ.set i false) x) : live g L τ x ∧ x ≠ .t i := by
  cases x with
  | t j =>
    simp only [live] at h ⊢
    by_cases hij : i = j
    · subst hij
      rw [List.getElem?_set] at h
      simp at h
    · rw [List.getElem?_set_ne hij] at h; exact ⟨h, by intro e; injection e with e; exact hij e.symm⟩
  | l j => exact ⟨h, by intro e; injection e⟩
  | b j => exact ⟨h, by intro e; injection e⟩

/-- Nobody appends to this row any more. -/
theorem FS.shut (h : FS c g L τ B w) (i : Nat) : FS c g L (τ.set i false) B w ∧ Gle c g (dom L) τ.length w g (dom L) (τ.set i false).length w := by
  have hg : Gle c g (dom L) τ.length w g (dom L) (τ.set i false).length w := by simpa using Gle.refl c g (dom L) τ.length w
  have hT : ∀ j, (τ.set i false)[j]? = some true → τ[j]? = some true := fun j hj => by
    by_cases hij : i = j
    · subst hij; rw [List.getElem?_set] at hj; simp at hj
    · rw [List.getElem?_set_ne hij] at hj; exact hj
  exact ⟨⟨h.below, h.entry, h.baseLe, h.nB, h.pre, h.zero, h.frame, h.os, h.tape, h.output, h.newL, fun j hj => h.newT j (hT j hj), h.newB, h.old, h.mvS.gle hg,
    fun j ds hj => (h.boxL j ds hj).mono (fun _ _ hr => hr.mono hg) rfl rfl, h.boxB, fun j hj => h.tok j (hT j hj), fun x y hx hy he => h.inj x y (live_shut hx).1 (live_shut hy).1 he⟩, hg⟩

/-- An append in place: row i's block is longer; row i is none any more. -/
theorem FS.grow0 (h : FS c g L τ B w) {i : Nat} (hi : τ[i]? = some true) (hw : g.ow i = true) (w' : World) (hh : ∀ q, q ≠ g.tk i → w'.heap[q]? = w.heap[q]?) (hsz : w'.heap.size = w.heap.size)
    (ho : w'.os = w.os) (ht : w'.tape = w.tape) (hp : w'.output = w.output) (n : Nat) (hn : g.en i ≤ n)
    (hb : ∃ (cs cs' : Array Value) (t t' : TypeId), w.heap[g.tk i]? = some (.cells cs t (0, 0)) ∧ w'.heap[g.tk i]? = some (.cells cs' t' (0, 0)) ∧ cs'.size = g.bs i ∧ ∀ (o : Nat) (v : Value), o < g.en i → cs[o]? = some v → cs'[o]? = some v) :
    FS c (g.withS (g.tk i) n) L (τ.set i false) B w' ∧ Gle c g (dom L) τ.length w (g.withS (g.tk i) n) (dom L) (τ.set i false).length w' ∧ ∀ x, live (g.withS (g.tk i) n) L (τ.set i false) x → blk (g.withS (g.tk i) n) x ≠ g.tk i := by
  obtain ⟨cs, cs', t, t', h1, h2, h3, h4⟩ := hb
  have hsi : g.s (g.tk i) = g.en i := (h.tok i hi hw).1
  have hne : ∀ x, live g L τ x → x ≠ .t i → blk g x ≠ g.tk i := fun x hx hxi he => hxi (h.inj x (.t i) hx ⟨hi, hw⟩ he)
  have hge := h.newT i hi hw
  have hbase := h.baseT hi hw
  have hlti : g.tk i < w.heap.size := h.lt (x := .t i) ⟨hi, hw⟩
  have hev : Ev g.bx g.s w g.bx (g.withS (g.tk i) n).s w' := by
    refine ⟨fun _ _ h => h, fun k hk => ?_, fun k o v hk hc => ?_⟩
    · by_cases e : k = g.tk i
      · subst e; simp [Gh.withS]; omega
      · simp [Gh.withS, e]
    · by_cases e : k = g.tk i
      · subst e
        have hcs : cs[o]? = some v := by simpa [World.cell?, h1] using hc
        have := h4 o v (by omega) hcs
        simp [World.cell?, h2, this]
      · rw [World.cell?_of_block (w := w) (hh k e)]; exact hc
  have hg : Gle c g (dom L) τ.length w (g.withS (g.tk i) n) (dom L) (τ.set i false).length w' :=
    ⟨hev, fun _ h => h, by simp, fun _ _ => rfl, fun _ _ => rfl, fun _ _ => rfl, fun _ _ => rfl, fun _ _ => rfl, by omega⟩
  have hlive : ∀ x, live (g.withS (g.tk i) n) L (τ.set i false) x → live g L τ x ∧ x ≠ .t i := fun x hx => live_shut (g := g) (by cases x <;> exact hx)
  have hblk : ∀ x, blk (g.withS (g.tk i) n) x = blk g x := fun x => by cases x <;> rfl
  have hs : ∀ k, k ≠ g.tk i → (g.withS (g.tk i) n).s k = g.s k := fun k hk => by simp [Gh.withS, hk]
  refine ⟨⟨⟨ho.trans h.below.os, ht.trans h.below.tape, hp.trans h.below.output, by have := h.below.size; omega, fun k hk => by rw [hh k (by omega)]; exact h.below.block k hk⟩,
    by have := h.entry; omega, h.baseLe, h.nB, h.pre, fun k hk => by rw [hs k (by omega)]; exact h.zero k (by omega), fun k hk hb hm => ?_,
    ho.trans h.os, ht.trans h.tape, hp.trans h.output,
    h.newL, fun j hj hw => ?_, h.newB, h.old, h.mvS.gle hg, fun j fs hj => ?_, fun j fs k hj hk => ?_, fun j hj hw => ?_, fun x y hx hy he => ?_⟩, hg, fun x hx => ?_⟩
  · have hq : k ≠ g.tk i := fun e => by subst e; rcases hge with h1 | h1; omega; exact hm h1
    rw [hh k hq, hs k hq]; exact h.frame k hk hb hm
  · obtain ⟨⟨a1, a2⟩, _⟩ := hlive (.t j) ⟨hj, hw⟩
    exact h.newT j a1 a2
  · have hn := hne (.l j) ⟨fs, hj⟩ (by intro e; injection e)
    exact (h.boxL j fs hj).mono (fun _ _ hr => hr.mono hg) (hs _ hn) (hh _ hn)
  · have hn := hne (.b j) (lt_of_get hk) (by intro e; injection e)
    rw [show blk g (.b j) = k from bx_getD hk] at hn
    exact (h.boxB j fs k hj hk).mono (fun _ _ hr => hr.mono hg.ev) (hs _ hn) (hh _ hn)
  · obtain ⟨⟨a1, a2⟩, a3⟩ := hlive (.t j) ⟨hj, hw⟩
    have hn : g.tk j ≠ g.tk i := hne (.t j) ⟨a1, a2⟩ a3
    obtain ⟨b1, ds, u, b2, b3⟩ := h.tok j a1 a2
    exact ⟨(hs (g.tk j) hn).trans b1, ds, u, (hh _ hn).trans b2, b3⟩
  · rw [hblk, hblk] at he
    exact h.inj x y (hlive x hx).1 (hlive y hy).1 he
  · rw [hblk]; exact hne x (hlive x hx).1 (hlive x hx).2

/-- An append in place: row i's block is row j's now (j: a new number), and longer. -/
theorem FS.grow (h : FS c g L τ B w) {i : Nat} (hi : τ[i]? = some true) (hw : g.ow i = true) (w' : World) (hh : ∀ q, q ≠ g.tk i → w'.heap[q]? = w.heap[q]?) (hsz : w'.heap.size = w.heap.size)
    (ho : w'.os = w.os) (ht : w'.tape = w.tape) (hp : w'.output = w.output) (n : Nat) (hn : g.en i ≤ n)
    (hb : ∃ (cs cs' : Array Value) (t t' : TypeId), w.heap[g.tk i]? = some (.cells cs t (0, 0)) ∧ w'.heap[g.tk i]? = some (.cells cs' t' (0, 0)) ∧ cs'.size = g.bs i ∧ ∀ (o : Nat) (v : Value), o < g.en i → cs[o]? = some v → cs'[o]? = some v) :
    FS c ((g.withS (g.tk i) n).newT τ.length (g.tk i) n (g.bs i)) L (τ.set i false ++ [true]) B w' ∧
      Gle c g (dom L) τ.length w ((g.withS (g.tk i) n).newT τ.length (g.tk i) n (g.bs i)) (dom L) (τ.set i false ++ [true]).length w' := by
  obtain ⟨q1, q2, q3⟩ := h.grow0 hi hw w' hh hsz ho ht hp n hn hb
  obtain ⟨cs, cs', t, t', h1, h2, h3, h4⟩ := hb
  have hlen : (τ.set i false).length = τ.length := by simp
  have := q1.adopt (g.tk i) n (g.bs i) (h.newT i hi hw) (by simp [Gh.withS]) ⟨cs', t', h2, h3⟩ q3
  rw [hlen] at this
  obtain ⟨p1, p2⟩ := this
  exact ⟨p1, Gle.trans (by rw [hlen] at q2; exact q2) p2⟩

/-! ### Stores, cell by cell -/
theorem setCell_heap (w : World) (k o : Nat) (v : Value) (cs : Array Value) (t : TypeId) (fr : Nat × Nat) (h : w.heap[k]? = some (.cells cs t fr)) :
    (w.setCell ⟨k, o, none⟩ v).heap[k]? = some (.cells (cs.setIfInBounds o v) t fr) := by
  simp [World.setCell, Array.getElem?_modify, h]

theorem setCell_other (w : World) (k o : Nat) (v : Value) (q : Nat) (hq : q ≠ k) : (w.setCell ⟨k, o, none⟩ v).heap[q]? = w.heap[q]? := Below.heap_setCell w _ v q hq

/-- Stores of single cells, one behind the other. -/
theorem run_storeCells_gen (P : Program) (k : Nat) (t : TypeId) (fr : Nat × Nat) (n : Nat) (hfr : nofr fr n) : ∀ (vs : List Value) (o : Nat) (i : Nat) (cur : Array Value) (w : World),
    w.heap[k]? = some (.cells cur t fr) → cur.size = n → o + i + vs.length ≤ n → (∀ v ∈ vs, v.oneCell' = true) →
    ∃ (w' : World) (cs' : Array Value), (storeCells ⟨k, o, none⟩ vs i).run P w = .ok () w' ∧ w'.heap[k]? = some (.cells cs' t fr) ∧ cs'.size = n ∧
      (∀ j : Nat, cs'[j]? = if o + i ≤ j ∧ j < o + i + vs.length then vs[j - (o + i)]? else cur[j]?) ∧
      (∀ q, q ≠ k → w'.heap[q]? = w.heap[q]?) ∧ w'.heap.size = w.heap.size ∧ w'.os = w.os ∧ w'.tape = w.tape ∧ w'.output = w.output
  | [], o, i, cur, w, hg, hc, _, _ => ⟨w, cur, rfl, hg, hc, fun j => by rw [if_neg (by simp <;> omega)], fun _ _ => rfl, rfl, rfl, rfl, rfl⟩
  | v :: rest, o, i, cur, w, hg, hc, hl, h1 => by
    simp at hl
    have hadd : (⟨k, o, none⟩ : Addr).add i = ⟨k, o + i, none⟩ := add_plain k o i
    have hcell : w.cell? ⟨k, o + i, none⟩ = some (cur[o + i]'(by omega)) := by
      simp [World.cell?, hg]
    have hfro : w.frozen? ⟨k, o + i, none⟩ = false := by
      simp only [World.frozen?, hg]
      exact hfr.2 (o + i) (by omega)
    have hst : (store ((⟨k, o, none⟩ : Addr).add i) v).run P w = .ok () (w.setCell ⟨k, o + i, none⟩ v) := by
      rw [hadd, run_store P w _ v _ (h1 v (by simp)), hcell]
      simp [hfro]
    have hg' := setCell_heap w k (o + i) v cur t fr hg
    obtain ⟨w', cs', a1, a2, a3, a4, a5, a6, a7, a8, a9⟩ := run_storeCells_gen P k t fr n hfr rest o (i + 1) (cur.setIfInBounds (o + i) v) (w.setCell ⟨k, o + i, none⟩ v) hg' (by simpa using hc) (by omega) (fun x hx => h1 x (by simp [hx]))
    refine ⟨w', cs', ?_, a2, a3, fun j => ?_, fun q hq => (a5 q hq).trans (setCell_other w k _ v q hq), by rw [a6]; simp, a7, a8, a9⟩
    · simp only [storeCells, Sem.run_bind, hst, Result.andThen_ok, a1]
    · rw [a4 j]
      simp only [List.length_cons]
      by_cases hj : j = o + i
      · subst hj
        rw [if_neg (by omega), if_pos (by omega)]
        simp [Array.getElem?_setIfInBounds]; omega
      · by_cases hin : o + (i + 1) ≤ j ∧ j < o + (i + 1) + rest.length
        · rw [if_pos hin, if_pos (by omega), show j - (o + i) = (j - (o + (i + 1))) + 1 by omega, List.getElem?_cons_succ]
        · rw [if_neg hin, if_neg (by omega), Array.getElem?_setIfInBounds_ne (by omega)]

end Go.Proofs.YtploddijjofphaaDoor.V
