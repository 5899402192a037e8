/-
pins.Close, by hand: the error; as a callee of the interpreter.
-/
import Derived.Test.YtnhelkclkdfndaaDoorDD
namespace Go.Proofs.YtnhelkclkdfndaaDoor.V
open Go Go.RowKit
set_option linter.unusedSimpArgs false
set_option linter.unusedVariables false

variable {c : Cx} {g : Gh} {w : World}

theorem rep_err {bx : List Nat} {s : Nat → Nat} {t : TypeId} {n : Int} {v : Value} (h : Rep bx s w (.iface t (.int .i64 n)) v) : v = .iface t (.int .i64 n) := by
  cases h with
  | iface _ _ u hu => cases hu; rfl

set_option maxHeartbeats 4000000 in
set_option maxRecDepth 1000000 in
theorem close_fails {C : Callees} (hP : c.P = Tryd.prog) (hC : CallOK c C) (hf : FS (c.at_ w g []) g [] [] [] w) (next id : Nat) {xs : List D} {S : Value} (hS : Rep [] g.s w (.vec 18 xs .none) S) (z : Int) (n : Int)
    (hat : C 79 [.agg [.int .u64 next, .vec 18 xs .none], .int .u64 id] [] = some (.tuple [.int .i64 z, .iface 163 (.int .i64 n)], [])) :
    Calls c.P 18 #[.agg #[.int .u64 next, S], .int .u64 id] w fun e w' => ∃ s', e = .returned (.tuple #[.agg #[.int .u64 0, .slice none 0 0], .iface 163 (.int .i64 n)]) ∧ Left w g.s w' s' := by
  have l1 := boxes_left hf next S
  have hS1 := hS.mono l1.ev
  have hA := use_call hC hat hf l1 (vs := [.agg #[.int .u64 next, S], .int .u64 id]) (.cons _ _ [] _ _ [] (.one _ _ _ (.clean _ _ (.agg _ _ rfl (fun i d hi => by
    match i, hi with
    | 0, hi => simp at hi; subst hi; exact .int _ _
    | 1, hi => simp at hi; subst hi; exact hS1)))) (.cons _ _ [] _ _ [] (.one _ _ _ (.clean _ _ (.int _ _))) .nil))
  rw [hP] at hA ⊢
  clear hS1
  obtain ⟨p1, p2⟩ := boxes_at w next S
  have p3 := boxes_size w next S
  have key : ∀ (w2 : World) (s2 : Nat → Nat), Left (boxes w next S) g.s w2 s2 → w2.heap[w.heap.size + 1]? = some (.cells #[.int .u64 0, .slice none 0 0] 30 (0, 0)) ∧ w2.cell? ⟨w.heap.size + 1, 0, none⟩ = some (.int .u64 0) ∧ w2.cell? ⟨w.heap.size + 1, 1, none⟩ = some (.slice none 0 0) ∧ w2.frozen? ⟨w.heap.size + 1, 0, none⟩ = false ∧ w2.frozen? ⟨w.heap.size + 1, 1, none⟩ = false := fun w2 s2 l2 => by
    have p5 := (l2.heap (w.heap.size + 1) (by omega)).trans p2
    exact ⟨p5, (cell_at p5).1.trans rfl, (cell_at p5).1.trans rfl, (cell_at p5).2, (cell_at p5).2⟩
  go_enter Tryd.func18, Tryd.ntmps18
  go_wp2_with (go_at_call 79; refine hA.mono ?_; rintro e w2 ⟨v, rfl, s2, ls, l2, hr, _, _⟩; obtain ⟨v1, v2, k1, k2, rfl, r1, r2, _⟩ := repR_tuple2 hr; cases repC_plain rfl r1; have r3 := rep_err (repC_plain rfl r2); subst r3; clear hr r1 r2; obtain ⟨c8, c3, c4, c5, c6⟩ := key w2 s2 l2)
  all_goals
    have q1 := setCell_heap w2 (w.heap.size + 1) 0 (.int .u64 0) _ _ _ c8
    have q2 := setCell_heap _ (w.heap.size + 1) 1 (.slice none 0 0) _ _ _ q1
    refine bodyPost_ret_by (results_cell2 rfl _ _ (w.heap.size + 1) _ _ _ _ rfl q2 Tryd.underlying30 rfl rfl) rfl ?_
    exact ⟨s2, rfl, left_set (left_set (l1.trans l2) (by omega)) (by omega)⟩

end Go.Proofs.YtnhelkclkdfndaaDoor.V
