import Derived.Test.YtbbbhalmlboapaaDoorUZ
import Derived.ChangeShapes
import Derived.Carry
/-
The table of types, out of the program's own.
-/
namespace Go.Proofs.YtbbbhalmlboapaaDoor.V
set_option linter.unusedSimpArgs false
set_option linter.unusedVariables false
open Go Go.RowKit

mutual
def ofZ : Value → Option D
  | .bool b => some (.bool b)
  | .int k n => some (.int k n)
  | .string s => some (.str s.data.toList)
  | .pointer .none => some .nilp
  | .slice .none 0 0 => some .nilsl
  | .nilFunc => some .nilfn
  | .nilIface => some .nili
  | .agg ⟨vs⟩ => match ofZL vs with
    | some ds => some (.agg ds)
    | .none => .none
  | _ => .none
def ofZL : List Value → Option (List D)
  | [] => some []
  | v :: vs => match ofZ v with
    | some d => match ofZL vs with
      | some ds => some (d :: ds)
      | .none => .none
    | .none => .none
end

theorem ofZ_rep (bx : List Nat) (s : Nat → Nat) (w : World) : ∀ n, (∀ (v : Value) (d : D), SizeOf.sizeOf v ≤ n → ofZ v = some d → Rep bx s w d v) ∧
    ∀ (vs : List Value) (ds : List D), SizeOf.sizeOf vs ≤ n → ofZL vs = some ds → ds.length = vs.length ∧ ∀ (i : Nat) (d : D), ds[i]? = some d → ∃ v, vs[i]? = some v ∧ Rep bx s w d v := by
  intro n
  induction n with
  | zero =>
    refine ⟨fun v d hn => ?_, fun vs ds hn => ?_⟩
    · cases v <;> simp at hn
    · cases vs <;> simp at hn
  | succ n ih =>
    refine ⟨fun v d hn h => ?_, fun vs ds hn h => ?_⟩
    · unfold ofZ at h
      split at h
      · injection h with h; subst h; exact .bool _
      · injection h with h; subst h; exact .int _ _
      · injection h with h; subst h; exact .str _
      · injection h with h; subst h; exact .nilp
      · injection h with h; subst h; exact .nilsl
      · injection h with h; subst h; exact .nilfn
      · injection h with h; subst h; exact .nili
      · rename_i vs
        split at h
        · rename_i ds hds
          injection h with h; subst h
          obtain ⟨h1, h2⟩ := ih.2 vs ds (by simp at hn; omega) hds
          refine .agg _ _ (by simpa using h1) (fun i d hi => ?_)
          obtain ⟨v, hv, hr⟩ := h2 i d hi
          simp [Array.getD_eq_getD_getElem?, hv]; exact hr
        · cases h
      · cases h
    · cases vs with
      | nil => simp [ofZL] at h; subst h; exact ⟨rfl, fun i d hi => by simp at hi⟩
      | cons v vs =>
        simp only [ofZL] at h
        split at h
        · rename_i d hd
          split at h
          · rename_i ds' hds
            injection h with h; subst h
            have h0 := ih.1 v d (by simp at hn; omega) hd
            obtain ⟨h1, h2⟩ := ih.2 vs ds' (by simp at hn; omega) hds
            refine ⟨by simp [h1], fun i e hi => ?_⟩
            cases i with
            | zero => simp at hi; subst hi; exact ⟨v, rfl, h0⟩
            | succ i => simp at hi; obtain ⟨u, hu, hr⟩ := h2 i e hi; exact ⟨u, by simpa using hu, hr⟩
          · cases h
        · cases h

/-- A nil slice, by its type. -/
def fixZ (P : Program) (u : TypeId) : D → D
  | .nilsl => match P.underlying u with
    | some (.slice e) => .vec (P.cellsOf e) [] .exact
    | _ => .nilsl
  | d => d

def fixL (P : Program) (ts : List TypeId) : Nat → List D → List D
  | _, [] => []
  | k, d :: ds => fixZ P (ts.getD (k % ts.length) 0) d :: fixL P ts (k + 1) ds

def fixD (P : Program) (t : TypeId) : D → D
  | .agg ds => .agg (fixL P ((P.cellTypes P.depth t).getD []) 0 ds)
  | d => fixZ P t d

theorem fixZ_rep {bx : List Nat} {s : Nat → Nat} {w : World} (P : Program) (u : TypeId) {d : D} {v : Value} (h : Rep bx s w d v) : Rep bx s w (fixZ P u d) v := by
  unfold fixZ
  split
  · split
    · cases h; exact .nilv _ _ (.inr rfl)
    · exact h
  · exact h

theorem fixL_get (P : Program) (ts : List TypeId) : ∀ (k : Nat) (ds : List D) (i : Nat), (fixL P ts k ds)[i]? = (ds[i]?).map (fixZ P (ts.getD ((k + i) % ts.length) 0))
  | k, [], i => by simp [fixL]
  | k, d :: ds, 0 => by simp [fixL]
  | k, d :: ds, i + 1 => by
    simp only [fixL, List.getElem?_cons_succ]
    rw [fixL_get P ts (k + 1) ds i, show k + 1 + i = k + (i + 1) by omega]

theorem fixL_len (P : Program) (ts : List TypeId) : ∀ (k : Nat) (ds : List D), (fixL P ts k ds).length = ds.length
  | _, [] => rfl
  | k, d :: ds => by simp [fixL, fixL_len P ts (k + 1) ds]

theorem fixD_rep {bx : List Nat} {s : Nat → Nat} {w : World} (P : Program) (t : TypeId) {d : D} {v : Value} (h : Rep bx s w d v) : Rep bx s w (fixD P t d) v := by
  cases d with
  | agg ds =>
    cases h with
    | agg _ vs hl h =>
      refine .agg _ _ (by rw [fixL_len]; exact hl) (fun i e hi => ?_)
      rw [fixL_get] at hi
      cases hq : ds[i]? with
      | none => rw [hq] at hi; cases hi
      | some y => rw [hq] at hi; injection hi with hi; subst hi; exact fixZ_rep P _ (h i y hq)
  | _ => exact fixZ_rep P t h

def tdOfDesc : TypeDesc → Option TD
  | .bool => some .bool
  | .int k => some (.int k)
  | .string => some .str
  | .pointer e => some (.ptr e)
  | .slice e => some (.slice e)
  | .array n e => some (.array n e)
  | .struct fields => if fields.toList.all (fun f => f.name != "_") then some (.struct (fields.toList.map fun f => (f.offset, f.type))) else .none
  | .interface _ => some .iface
  | .func .. => some .func
  | _ => some .other

def fldsOk (P : Program) : TD → Bool
  | .struct fs => fs.all fun f => (P.info? f.2).isSome
  | _ => true

def tabOf (P : Program) : Tab := fun t =>
  match P.info? t, P.underlying t with
  | some i, some u => match i.zero, tdOfDesc u with
    | some z, some td => match ofZ z with
      | some d => bif Nat.beq (fixD P t d).cells.length i.size && (fixD P t d).cells.all D.leaf && fldsOk P td then
          some ⟨td, i.size, i.bytes, fixD P t d, !(P.eqGuardType P.depth t) && !(P.stoodInHeld t)⟩
        else .none
      | .none => .none
    | _, _ => .none
  | _, _ => .none

theorem tabOf_inv {P : Program} {t : TypeId} {ti : TI} (h : tabOf P t = some ti) : ∃ i u z d, P.info? t = some i ∧ P.underlying t = some u ∧ i.zero = some z ∧ tdOfDesc u = some ti.d ∧ ofZ z = some d ∧
    (fixD P t d).cells.length = i.size ∧ (fixD P t d).cells.all D.leaf = true ∧ fldsOk P ti.d = true ∧ ti.sz = i.size ∧ ti.bytes = i.bytes ∧ ti.zero = fixD P t d ∧ (ti.cmp = true → P.eqGuardType P.depth t = false ∧ P.stoodInHeld t = false) := by
  unfold tabOf at h
  split at h
  · rename_i i u hi hu
    split at h
    · rename_i z td hz htd
      split at h
      · rename_i d hd
        cases hb : (Nat.beq (fixD P t d).cells.length i.size && (fixD P t d).cells.all D.leaf && fldsOk P td) with
        | false => rw [hb] at h; cases h
        | true =>
          rw [hb] at h
          simp only [cond_true] at h
          injection h with h; subst h
          simp only [Bool.and_eq_true] at hb
          exact ⟨i, u, z, d, hi, hu, hz, htd, hd, beq_of hb.1.1, hb.1.2, hb.2, rfl, rfl, rfl, fun hc => by simpa using hc⟩
      · cases h
    · cases h
  · cases h

theorem tabOf_ok (P : Program) : TabOk P (tabOf P) := by
  refine ⟨fun t ti h => ?_, fun t ti h => ?_, fun t ti h hc => ?_, fun t ti h hc => ?_, fun t ti h => ?_, fun t ti h => ?_, fun t ti fs h hfs f hf => ?_⟩ <;>
    obtain ⟨i, u, z, d, hi, hu, hz, htd, hd, h1, h2, h3, h4, h5, h6, h7⟩ := tabOf_inv h
  · cases u <;> simp only [tdOfDesc] at htd <;> try (injection htd with htd; rw [← htd]; first | exact hu | exact ⟨_, hu⟩ | exact ⟨_, _, _, hu⟩ | exact ⟨_, hu, fun _ e => (by cases e), fun _ _ e => (by cases e)⟩)
    rename_i fields
    split at htd
    · rename_i hall
      injection htd with htd
      rw [← htd]
      exact ⟨fields, hu, rfl, fun f hf => by simpa using List.all_eq_true.1 hall f hf⟩
    · cases htd
  · exact ⟨i, z, hi, h4.symm, h5.symm, hz, fun bx s w => by rw [h6]; exact fixD_rep P t ((ofZ_rep bx s w _).1 z d (Nat.le_refl _) hd)⟩
  · exact (h7 hc).1
  · exact (h7 hc).2
  · rw [h6, h4]; exact h1
  · rw [h6]; exact h2
  · rw [hfs] at h3
    simp only [fldsOk] at h3
    have := List.all_eq_true.1 h3 f hf
    exact Option.isSome_iff_exists.1 this

end Go.Proofs.YtbbbhalmlboapaaDoor.V

/-
Small things for evaluation.
-/
namespace Go.Proofs.YtbbbhalmlboapaaDoor.V
set_option linter.unusedSimpArgs false
set_option linter.unusedVariables false
open Go Go.RowKit

theorem bT (b : Bool) : (b == true) = b := by cases b <;> rfl
theorem bF (b : Bool) : (b == false) = !b := by cases b <;> rfl

theorem ieq (a b : Int) : (a == b) = decide (a = b) := by
  by_cases h : a = b <;> simp [h]
theorem ine (a b : Int) : (a != b) = !decide (a = b) := by
  by_cases h : a = b <;> simp [h]

def atC (i : Nat) : Code → Code
  | .seq a b => if i = 0 then a else b
  | .cond _ a b => if i = 0 then a else b
  | .block _ c => c
  | .loop c => c
  | c => c

def subC : List Nat → Code → Code
  | [], c => c
  | i :: p, c => subC p (atC i c)

theorem wrapI {x : Int} (h1 : -9223372036854775808 ≤ x) (h2 : x ≤ 9223372036854775807) : IntKind.i64.wrap x = x := by
  rw [IntKind.wrap_i64]; omega

/-- So many parts of a text, and then another one. -/
def cutC : Nat → Code → Code → Code
  | 0, _, t => t
  | n + 1, .seq a b, t => .seq a (cutC n b t)
  | _ + 1, c, _ => c

/-- What stands behind so many parts. -/
def tlC : Nat → Code → Code
  | 0, c => c
  | n + 1, .seq _ b => tlC n b
  | _ + 1, c => c

theorem cut_tl : ∀ (n : Nat) (c : Code), cutC n c (tlC n c) = c
  | 0, _ => rfl
  | n + 1, c => by
    cases c <;> simp only [cutC, tlC]
    rw [cut_tl n]

/-- The region that a text begins with. -/
def firstM : Code → Option Nat
  | .region id _ _ => some id
  | .seq a _ => firstM a
  | .block _ c => firstM c
  | _ => .none

theorem mid_code {T : Tab} {an : An} {C : Callees} {id : Nat} {st st' : St} (e : an.mid id st = an.mid id st') : ∀ (c : Code), firstM c = some id → codeV T an C c st = codeV T an C c st' := by
  intro c
  induction c with
  | region i ops d =>
    intro h
    injection h with h; subst h
    simp only [codeV, e]
  | seq a b iha ihb =>
    intro h
    have := iha h
    simp only [codeV, this]
  | block i c ih =>
    intro h
    have := ih h
    simp only [codeV, this]
  | _ => intro h; cases h

/-- It is all one how a state looks, but for what its first region keeps. -/
theorem mid_go {T : Tab} {an : An} {C : Callees} {c : Code} {k : Kont} {id : Nat} {st st' : St} (h : firstM c = some id) (e : an.mid id st = an.mid id st') : go T an C c k st = go T an C c k st' := by
  unfold go
  rw [mid_code e c h]

/-- A loop's body, where it stands in the text. -/
theorem loop_of {T : Tab} {an : An} {C : Callees} {c c' : Code} {k : Kont} {st : St} {r : X × St} {q : Option (X × St)} (h : loopC T an C c' st = some r) (hc : c = c') (hq : goX T an C k r.1 r.2 = q) : goL T an C k (loopC T an C c st) = q := by
  subst hc; rw [h]; exact hq

/-- A loop in its place. -/
theorem in_loop {γ : Type} (F : Option (X × St) → γ) {T : Tab} {an : An} {C : Callees} {c c' : Code} {k : Kont} {st : St} {r : γ} {Q : X → St → Prop} (h : ∃ x st', loopC T an C c' st = some (x, st') ∧ Q x st') (hc : c = c')
    (hq : ∀ x st', Q x st' → F (goX T an C k x st') = r) : F (goL T an C k (loopC T an C c st)) = r := by
  obtain ⟨x, st', h, hx⟩ := h
  subst hc; rw [h]; exact hq x st' hx

/-- A loop: 'enc' tells its head's state by what changes; each round goes on with less, or it ends as told. -/
theorem loop_rule {T : Tab} {an : An} {C : Callees} {c : Code} {σ : Type} (enc : σ → St) (I : σ → Prop) (μ : σ → Nat) (Q : X → St → Prop)
    (step : ∀ s, I s → (∃ s', (∃ st', go T an C c .top (enc s) = some (.norm, st') ∧ an.at_ (firstOf c) st' = enc s') ∧ I s' ∧ μ s' < μ s) ∨ ∃ x st', go T an C c .top (enc s) = some (x, st') ∧ x ≠ .norm ∧ Q x st') :
    ∀ (s : σ) (st : St), an.at_ (firstOf c) st = enc s → I s → ∃ x st', loopC T an C c st = some (x, st') ∧ Q x st' := by
  have key : ∀ (n : Nat) (s : σ) (st : St), μ s ≤ n → an.at_ (firstOf c) st = enc s → I s → ∃ x st', loopC T an C c st = some (x, st') ∧ Q x st' := by
    intro n
    induction n with
    | zero =>
      intro s st hn hst hI
      rcases step s hI with ⟨s', _, _, h4⟩ | ⟨x, st', h1, h2, h3⟩
      · omega
      · exact ⟨x, st', loopC_done (by rw [hst]; exact h1) h2, h3⟩
    | succ n ih =>
      intro s st hn hst hI
      rcases step s hI with ⟨s', ⟨st', h1, h2⟩, h3, h4⟩ | ⟨x, st', h1, h2, h3⟩
      · obtain ⟨x, st2, h5, h6⟩ := ih s' st' (by omega) h2 h3
        exact ⟨x, st2, loopC_next (by rw [hst]; exact h1) h5, h6⟩
      · exact ⟨x, st', loopC_done (by rw [hst]; exact h1) h2, h3⟩
  exact fun s st => key (μ s) s st (Nat.le_refl _)

end Go.Proofs.YtbbbhalmlboapaaDoor.V

/-
Callees that are not walked by the interpreter.
-/
namespace Go.Proofs.YtbbbhalmlboapaaDoor.V
set_option linter.unusedSimpArgs false
set_option linter.unusedVariables false
open Go Go.RowKit

variable {c : Cx} {g : Gh} {w : World}

/-- A call that leaves behind nothing but new blocks. -/
theorem FS.scratch {B : List (List D)} {ks : List Nat} {w' : World} (h : FS (c.at_ w g ks) g [] [] B w) (hh : ∀ k, k < w.heap.size → w'.heap[k]? = w.heap[k]?) (hs : w.heap.size ≤ w'.heap.size) (ho : w'.os = w.os) (ht : w'.tape = w.tape) (hp : w'.output = w.output) :
    FS (c.at_ w g ks) g [] [] B w' := by
  have hev : Ev g.bx g.s w g.bx g.s w' := ev_new _ _ _ _ _ (fun _ _ => rfl) hh
  refine ⟨⟨ho.trans h.below.os, ht.trans h.below.tape, hp.trans h.below.output, Nat.le_trans h.below.size hs, fun k hk => ?_⟩, hs, h.baseLe, h.nB, h.pre, fun k hk => h.zero k (Nat.le_trans hs hk), fun k hk _ _ => ⟨hh k hk, rfl⟩, ho, ht, hp, h.newL, h.newT, h.newB, h.old, h.mvS.step hev hs, fun i ds hi => (by simp at hi), fun i ds k hi hk => ?_, fun i hi => (by simp at hi), h.inj⟩
  · rw [hh k (Nat.lt_of_lt_of_le hk h.baseLe)]; exact h.below.block k hk
  · have hlt := h.lt (x := .b i) (lt_of_get hk)
    rw [show blk g (.b i) = k from bx_getD hk] at hlt
    exact (h.boxB i ds k hi hk).mono (fun _ _ hr => hr.mono hev) rfl (hh _ hlt)

/-- One function more, by its own contract. -/
theorem CallOK.prim {C : Callees} (hC : CallOK c C) {f : FuncId} {h : List D → Hp → Option (D × Hp)} (hf : ∃ fn : Func, c.P.funcs[f]? = some fn ∧ (fn.name == "runtime.NumGoroutine") = false ∧ fn.body.isNone = false)
    (hh : ∀ args B r B', h args B = some (r, B') → ∀ (w : World) (g : Gh) (vs : List Value) (ks : List Nat), FS (c.at_ w g ks) g [] [] B w → RepOL (RepC g.bx g.s w) args vs ks → ks.Nodup → (∀ k, k ∈ ks → k ∉ g.bx) →
      Calls c.P f vs.toArray w fun e w' => ∃ v, e = .returned v ∧ ∃ (g' : Gh) (ls : List Nat), FS (c.at_ w g ks) g' [] [] B' w' ∧ RepR g'.bx g'.s w' r v ls ∧ ls.Nodup ∧ ∀ k, k ∈ ls → (w.heap.size ≤ k ∨ k ∈ ks) ∧ k ∉ g'.bx) :
    CallOK c (V.upd C f h) := fun f' args B r B' hu => by
  unfold V.upd at hu
  cases hb : Nat.beq f f' with
  | true =>
    rw [hb] at hu
    simp only [cond_true] at hu
    obtain rfl := Nat.eq_of_beq_eq_true hb
    exact ⟨hf, hh args B r B' hu⟩
  | false =>
    rw [hb] at hu
    exact hC f' args B r B' hu

theorem one_arg {R : D → Value → List Nat → Prop} {d : D} {vs : List Value} {ks : List Nat} (h : RepOL R [d] vs ks) : ∃ v, vs = [v] ∧ R d v ks := by
  cases h with
  | cons _ v k1 _ vs k2 h hr => cases hr; exact ⟨v, rfl, by simpa using h⟩

/-- What is told of a value that is no row of one's own. -/
theorem repC_plain {bx : List Nat} {s : Nat → Nat} {d : D} {v : Value} {ks : List Nat} (hp : d.plain = true) (h : RepC bx s w d v ks) : Rep bx s w d v := plain_repC hp h s w

end Go.Proofs.YtbbbhalmlboapaaDoor.V

/-
A law's entry: all memory is stable; what the arguments read as.
-/
namespace Go.Proofs.YtbbbhalmlboapaaDoor.V
set_option linter.unusedSimpArgs false
set_option linter.unusedVariables false
open Go Go.RowKit

/-- How many cells a block has. -/
def sizeAt (W : World) (k : Nat) : Nat :=
  match W.heap[k]? with
  | some (.cells cs _ _) => cs.size
  | _ => 0

def c0 (P : Program) (W : World) : Cx := { P := P, bx := [], mv := [], base := W.heap.size, w0 := W, we := W, s0 := sizeAt W }
def g0 (W : World) : Gh := { loc := fun _ => 0, tk := fun _ => 0, en := fun _ => 0, bs := fun _ => 0, ow := fun _ => false, bx := [], s := sizeAt W }

theorem FS.start (P : Program) (W : World) : FS ((c0 P W).at_ W (g0 W) []) (g0 W) [] [] [] W := by
  refine ⟨⟨rfl, rfl, rfl, Nat.le_refl _, fun _ _ => rfl⟩, Nat.le_refl _, Nat.le_refl _, rfl, fun _ _ h => h, fun k hk => ?_, fun k _ _ _ => ⟨rfl, rfl⟩, rfl, rfl, rfl, fun i ds hi => (by simp at hi), fun i hi => (by simp at hi), fun b k hb => (by simp [g0] at hb), fun k hk => ?_, fun k hk => (by cases hk), fun i ds hi => (by simp at hi), fun i ds k hi => (by simp at hi), fun i hi => (by simp at hi), fun x y hx hy he => ?_⟩
  · show sizeAt W k = 0
    unfold sizeAt
    rw [Array.getElem?_eq_none hk]
  · rcases hk with hk | hk <;> simp [Cx.at_, g0] at hk
  · cases x with
    | l i => obtain ⟨ds, hd⟩ := hx; simp at hd
    | t i => simp [live] at hx
    | b i => simp [live, g0] at hx

theorem cell_size {W : World} {b o : Nat} {v : Value} (h : W.cell? ⟨b, o, none⟩ = some v) : o < sizeAt W b := by
  unfold World.cell? at h
  unfold sizeAt
  split at h
  · rename_i cs t fr hb
    simp only at hb
    rw [hb]
    simp at h
    exact (Array.getElem?_eq_some_iff.1 h).1
  · cases h

/-- A row of the caller's, of single cells. -/
theorem rep_row {bx : List Nat} {W : World} {b off cap : Nat} {xs : List D} (vs : Nat → Value) (hcap : xs.length ≤ cap) (hleaf : ∀ x, x ∈ xs → x.leaf = true) (hc : ∀ (i : Nat) (d : D), xs[i]? = some d → W.cell? ⟨b, off + i, none⟩ = some (vs i) ∧ Rep bx (sizeAt W) W d (vs i)) :
    Rep bx (sizeAt W) W (.vec 1 xs .none) (.slice (some ⟨b, off, none⟩) xs.length cap) := by
  have hcl := cellsL_leaf hleaf
  refine .vec 1 xs .none _ cap vs (.inl rfl) hcap (fun x hx => by rw [leaf_cells (hleaf x hx)]; exact ⟨rfl, by simp [hleaf x hx]⟩) (fun i d hi => ?_) (fun i d hi => ?_) (fun hne => ?_)
  · rw [hcl] at hi; rw [add_plain]; exact (hc i d hi).1
  · rw [hcl] at hi; exact (hc i d hi).2
  · rw [hcl] at hne
    have hpos : 0 < xs.length := List.length_pos_iff.mpr hne
    have := cell_size (hc (xs.length - 1) _ (List.getElem?_eq_getElem (by omega))).1
    show off + xs.length * 1 ≤ sizeAt W b
    omega

/-- What a law that answers true does. -/
theorem law_of {P : Program} {W : World} {C : Callees} (hC : CallOK (c0 P W) C) {f : FuncId} {args : List D} {vs : Array Value} (h : C f args [] = some (.bool true, [])) (hl : args.length = vs.size)
    (ha : ∀ (i : Nat) (d : D), args[i]? = some d → ∃ v : Value, vs[i]? = some v ∧ Rep [] (sizeAt W) W d v) :
    Calls P f vs W fun e W' => e = .returned (.bool true) ∧ Below W.heap.size W W' := by
  obtain ⟨_, h2⟩ := hC f args [] (.bool true) [] h
  have hargs : RepOL (RepC (g0 W).bx (g0 W).s W) args vs.toList [] := repOL_clean (by simpa using hl) (fun i d hi => by
    obtain ⟨v, hv, hr⟩ := ha i d hi
    exact ⟨v, by rw [Array.getElem?_toList]; exact hv, hr⟩)
  have := h2 W (g0 W) vs.toList [] (FS.start P W) hargs List.nodup_nil (fun k hk => by cases hk)
  rw [Array.toArray_toList] at this
  refine this.mono (fun e W' he => ?_)
  obtain ⟨v, rfl, g', ks, hf, hr, _, _⟩ := he
  refine ⟨?_, hf.below⟩
  cases hr with
  | one _ _ _ hr =>
    cases hr with
    | one _ _ _ hr =>
      cases hr with
      | clean _ _ hr => cases hr; rfl

end Go.Proofs.YtbbbhalmlboapaaDoor.V
