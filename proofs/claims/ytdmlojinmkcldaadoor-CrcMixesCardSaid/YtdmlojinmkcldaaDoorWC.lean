/-
Callees that are not walked by the interpreter.
-/
import Derived.Test.YtdmlojinmkcldaaDoorWB
namespace Go.Proofs.YtdmlojinmkcldaaDoor.V
set_option linter.unusedSimpArgs false
set_option linter.unusedVariables false
open Go Go.RowKit

variable {c : Cx} {g : Gh} {w : World}

/-- A call that leaves behind nothing but new blocks. -/
theorem FS.scratch {B : List (List D)} {w' : World} (h : FS (c.at_ w g.s) g [] [] B w) (hh : ∀ k, k < w.heap.size → w'.heap[k]? = w.heap[k]?) (hs : w.heap.size ≤ w'.heap.size) (ho : w'.os = w.os) (ht : w'.tape = w.tape) (hp : w'.output = w.output) :
    FS (c.at_ w g.s) g [] [] B w' := by
  have hev : Ev c.bx g.s w c.bx g.s w' := ev_new _ _ _ _ _ (fun _ _ => rfl) hh
  refine ⟨⟨ho.trans h.below.os, ht.trans h.below.tape, hp.trans h.below.output, Nat.le_trans h.below.size hs, fun k hk => ?_⟩, hs, h.baseLe, h.nB, fun k hk => h.zero k (Nat.le_trans hs hk), fun k hk hb => ⟨hh k hk, rfl⟩, ho, ht, hp, h.newL, h.newT, h.newB, fun i ds hi => (by simp at hi), fun i ds hi => ?_, fun i hi => (by simp at hi), h.inj⟩
  · rw [hh k (Nat.lt_of_lt_of_le hk h.baseLe)]; exact h.below.block k hk
  · have hlt := h.lt (x := .b i) (lt_of_get hi)
    exact (h.boxB i ds hi).mono (fun _ _ hr => hr.mono hev) rfl (hh _ hlt)

/-- One function more, by its own contract. -/
theorem CallOK.prim {C : Callees} (hC : CallOK c C) {f : FuncId} {h : List D → Hp → Option (D × Hp)} (hf : ∃ fn : Func, c.P.funcs[f]? = some fn ∧ (fn.name == "runtime.NumGoroutine") = false ∧ fn.body.isNone = false)
    (hh : ∀ args B r B', h args B = some (r, B') → ∀ (w : World) (g : Gh) (vs : Array Value), FS (c.at_ w g.s) g [] [] B w → args.length = vs.size → (∀ (i : Nat) (d : D), args[i]? = some d → ∃ v : Value, vs[i]? = some v ∧ Rep c.bx g.s w d v) →
      Calls c.P f vs w fun e w' => ∃ v, e = .returned v ∧ ∃ (g' : Gh) (ks : List Nat), FS (c.at_ w g.s) g' [] [] B' w' ∧ RepR c.bx g'.s w' r v ks ∧ ks.Nodup ∧ ∀ k, k ∈ ks → w.heap.size ≤ k) :
    CallOK c (V.upd C f h) := fun f' args B r B' hu => by
  unfold V.upd at hu
  cases hb : Nat.beq f f' with
  | true =>
    rw [hb] at hu
    simp only [cond_true] at hu
    obtain rfl := Nat.eq_of_beq_eq_true hb
    exact ⟨hf, hh args B r B' hu⟩
  | false =>
    rw [hb] at hu
    exact hC f' args B r B' hu

theorem one_arg {R : D → Value → Prop} {d : D} {vs : Array Value} (hl : [d].length = vs.size) (h : ∀ (i : Nat) (e : D), [d][i]? = some e → ∃ v : Value, vs[i]? = some v ∧ R e v) : ∃ v, vs = #[v] ∧ R d v := by
  obtain ⟨v, hv, hr⟩ := h 0 d rfl
  refine ⟨v, ?_, hr⟩
  apply Array.ext'
  match hvs : vs.toList with
  | [x] => rw [← Array.getElem?_toList, hvs] at hv; simp at hv; subst hv; rfl
  | [] => have : vs.toList.length = vs.size := by simp
          rw [hvs] at this; simp at this hl; omega
  | _ :: _ :: _ => have : vs.toList.length = vs.size := by simp
                   rw [hvs] at this; simp at this hl; omega

end Go.Proofs.YtdmlojinmkcldaaDoor.V
