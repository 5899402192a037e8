/-
Callees that are not walked by the interpreter.
-/
import Derived.Test.YtploddijjofphaaDoorXB
namespace Go.Proofs.YtploddijjofphaaDoor.V
set_option linter.unusedSimpArgs false
set_option linter.unusedVariables false
open Go Go.RowKit

variable {c : Cx} {g : Gh} {w : World}

/-- A call that leaves behind nothing but new blocks. -/
theorem FS.scratch {B : List (List D)} {ks : List Nat} {w' : World} (h : FS (c.at_ w g ks) g [] [] B w) (hh : ∀ k, k < w.heap.size → w'.heap[k]? = w.heap[k]?) (hs : w.heap.size ≤ w'.heap.size) (ho : w'.os = w.os) (ht : w'.tape = w.tape) (hp : w'.output = w.output) :
    FS (c.at_ w g ks) g [] [] B w' := by
  have hev : Ev g.bx g.s w g.bx g.s w' := ev_new _ _ _ _ _ (fun _ _ => rfl) hh
  refine ⟨⟨ho.trans h.below.os, ht.trans h.below.tape, hp.trans h.below.output, Nat.le_trans h.below.size hs, fun k hk => ?_⟩, hs, h.baseLe, h.nB, h.pre, fun k hk => h.zero k (Nat.le_trans hs hk), fun k hk _ _ => ⟨hh k hk, rfl⟩, ho, ht, hp, h.newL, h.newT, h.newB, h.old, h.mvS.step hev hs, fun i ds hi => (by simp at hi), fun i ds k hi hk => ?_, fun i hi => (by simp at hi), h.inj⟩
  · rw [hh k (Nat.lt_of_lt_of_le hk h.baseLe)]; exact h.below.block k hk
  · have hlt := h.lt (x := .b i) (lt_of_get hk)
    rw [show blk g (.b i) = k from bx_getD hk] at hlt
    exact (h.boxB i ds k hi hk).mono (fun _ _ hr => hr.mono hev) rfl (hh _ hlt)

/-- One function more, by its own contract. -/
theorem CallOK.prim {C : Callees} (hC : CallOK c C) {f : FuncId} {h : List D → Hp → Option (D × Hp)} (hf : ∃ fn : Func, c.P.funcs[f]? = some fn ∧ (fn.name == "runtime.NumGoroutine") = false ∧ fn.body.isNone = false)
    (hh : ∀ args B r B', h args B = some (r, B') → ∀ (w : World) (g : Gh) (vs : List Value) (ks : List Nat), FS (c.at_ w g ks) g [] [] B w → RepOL (RepC g.bx g.s w) args vs ks → ks.Nodup → (∀ k, k ∈ ks → k ∉ g.bx) →
      Calls c.P f vs.toArray w fun e w' => ∃ v, e = .returned v ∧ ∃ (g' : Gh) (ls : List Nat), FS (c.at_ w g ks) g' [] [] B' w' ∧ RepR g'.bx g'.s w' r v ls ∧ ls.Nodup ∧ ∀ k, k ∈ ls → (w.heap.size ≤ k ∨ k ∈ ks) ∧ k ∉ g'.bx) :
    CallOK c (V.upd C f h) := fun f' args B r B' hu => by
  unfold V.upd at hu
  cases hb : Nat.beq f f' with
  | true =>
    rw [hb] at hu
    simp only [cond_true] at hu
    obtain rfl := Nat.eq_of_beq_eq_true hb
    exact ⟨hf, hh args B r B' hu⟩
  | false =>
    rw [hb] at hu
    exact hC f' args B r B' hu

theorem one_arg {R : D → Value → List Nat → Prop} {d : D} {vs : List Value} {ks : List Nat} (h : RepOL R [d] vs ks) : ∃ v, vs = [v] ∧ R d v ks := by
  cases h with
  | cons _ v k1 _ vs k2 h hr => cases hr; exact ⟨v, rfl, by simpa using h⟩

/-- What is told of a value that is no row of one's own. -/
theorem repC_plain {bx : List Nat} {s : Nat → Nat} {d : D} {v : Value} {ks : List Nat} (hp : d.plain = true) (h : RepC bx s w d v ks) : Rep bx s w d v := plain_repC hp h s w

end Go.Proofs.YtploddijjofphaaDoor.V
