/-
A callee of the interpreter in a proof by hand (where there are no boxes).
-/
import Derived.Test.YtbbbhalmlboapaaDoorSA
namespace Go.Proofs.YtbbbhalmlboapaaDoor.V
open Go Go.RowKit
set_option linter.unusedSimpArgs false
set_option linter.unusedVariables false

variable {c : Cx} {g : Gh} {w : World}

/-- A call that leaves behind nothing but new blocks, some cells of which stay. -/
theorem FS.scratchN {B : List (List D)} {ks : List Nat} {w' : World} (h : FS (c.at_ w g ks) g [] [] B w) (s' : Nat → Nat) (hh : ∀ k, k < w.heap.size → w'.heap[k]? = w.heap[k]?) (hs : w.heap.size ≤ w'.heap.size) (ho : w'.os = w.os) (ht : w'.tape = w.tape) (hp : w'.output = w.output)
    (e1 : ∀ k, k < w.heap.size → s' k = g.s k) (e2 : ∀ k, w'.heap.size ≤ k → s' k = 0) :
    FS (c.at_ w g ks) { g with s := s' } [] [] B w' := by
  have hev : Ev g.bx g.s w g.bx s' w' := ev_new _ _ _ _ _ e1 hh
  refine ⟨⟨ho.trans h.below.os, ht.trans h.below.tape, hp.trans h.below.output, Nat.le_trans h.below.size hs, fun k hk => ?_⟩, hs, h.baseLe, h.nB, h.pre, e2, fun k hk _ _ => ⟨hh k hk, e1 k hk⟩, ho, ht, hp, h.newL, h.newT, h.newB, h.old, h.mvS.step hev hs, fun i ds hi => (by simp at hi), fun i ds k hi hk => ?_, fun i hi => (by simp at hi), h.inj⟩
  · rw [hh k (Nat.lt_of_lt_of_le hk h.baseLe)]; exact h.below.block k hk
  · have hlt := h.lt (x := .b i) (lt_of_get hk)
    rw [show blk g (.b i) = k from bx_getD hk] at hlt
    exact (h.boxB i ds k hi hk).mono (fun _ _ hr => hr.mono hev) (e1 _ hlt) (hh _ hlt)

/-- What a callee leaves behind, where there are no boxes. -/
structure Left (w1 : World) (s1 : Nat → Nat) (w2 : World) (s2 : Nat → Nat) : Prop where
  size : w1.heap.size ≤ w2.heap.size
  heap : ∀ k, k < w1.heap.size → w2.heap[k]? = w1.heap[k]?
  os : w2.os = w1.os
  tape : w2.tape = w1.tape
  output : w2.output = w1.output
  same : ∀ k, k < w1.heap.size → s2 k = s1 k
  zero : ∀ k, w2.heap.size ≤ k → s2 k = 0

theorem Left.trans {w1 w2 w3 : World} {s1 s2 s3 : Nat → Nat} (h : Left w1 s1 w2 s2) (h' : Left w2 s2 w3 s3) : Left w1 s1 w3 s3 :=
  ⟨Nat.le_trans h.size h'.size, fun k hk => (h'.heap k (Nat.lt_of_lt_of_le hk h.size)).trans (h.heap k hk), h'.os.trans h.os, h'.tape.trans h.tape, h'.output.trans h.output,
    fun k hk => (h'.same k (Nat.lt_of_lt_of_le hk h.size)).trans (h.same k hk), h'.zero⟩
theorem Left.ev {w1 w2 : World} {s1 s2 : Nat → Nat} (h : Left w1 s1 w2 s2) : Ev [] s1 w1 [] s2 w2 := ev_new _ _ _ _ _ h.same h.heap

/-- A callee in a proof by hand. -/
theorem use_call {C : Callees} (hC : CallOK c C) {f : FuncId} {args : List D} {r : D} (h : C f args [] = some (r, [])) (hf : FS (c.at_ w g []) g [] [] [] w) {w1 : World} {s1 : Nat → Nat} (hl : Left w g.s w1 s1) {vs : List Value} (ha : RepOL (RepC [] s1 w1) args vs []) :
    Calls c.P f vs.toArray w1 fun e w2 => ∃ v, e = .returned v ∧ ∃ s2 ls, Left w1 s1 w2 s2 ∧ RepR [] s2 w2 r v ls ∧ ls.Nodup ∧ ∀ k, k ∈ ls → w1.heap.size ≤ k := by
  have hbx : g.bx = [] := List.length_eq_zero_iff.1 hf.nB.symm
  have q1 := hf.scratchN s1 hl.heap hl.size hl.os hl.tape hl.output hl.same hl.zero
  have q2 := q1.enter s1 [] (fun k => Nat.le_refl _) hl.zero (fun b k hb => by rw [show ({ g with s := s1 } : Gh).bx = g.bx from rfl, hbx] at hb; simp at hb) (fun k hk => by cases hk)
  refine ((hC f args [] r [] h).2 w1 { g with s := s1 } vs [] q2 (by rw [show ({ g with s := s1 } : Gh).bx = [] from hbx]; exact ha) List.nodup_nil (fun k hk => by cases hk)).mono ?_
  rintro e w2 ⟨v, rfl, g2, ls, hf2, hr, hn, hk⟩
  have hbx2 : g2.bx = [] := List.length_eq_zero_iff.1 hf2.nB.symm
  rw [hbx2] at hr
  refine ⟨v, rfl, g2.s, ls, ⟨hf2.entry, fun k hk => (hf2.frame k hk (by rw [show (Cx.at_ c w1 { g with s := s1 } []).bx = [] from hbx]; simp) (by simp [Cx.at_])).1, hf2.os, hf2.tape, hf2.output, fun k hk => (hf2.frame k hk (by rw [show (Cx.at_ c w1 { g with s := s1 } []).bx = [] from hbx]; simp) (by simp [Cx.at_])).2, hf2.zero⟩, hr, hn, fun k hk2 => ?_⟩
  rcases (hk k hk2).1 with h1 | h1
  · exact h1
  · cases h1

end Go.Proofs.YtbbbhalmlboapaaDoor.V
