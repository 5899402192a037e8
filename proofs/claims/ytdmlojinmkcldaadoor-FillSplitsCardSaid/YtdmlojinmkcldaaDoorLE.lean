/-
Layer 11: FillSplits.
-/
import Derived.Test.YtdmlojinmkcldaaDoorLD
namespace Go.Proofs.YtdmlojinmkcldaaDoor.V
open Go Go.RowKit
set_option linter.unusedSimpArgs false
set_option linter.unusedVariables false

/-! warren/warrenlaw11.FillSplits -/
def an3 : An := ⟨fun _ => .none, fun _ => false⟩
noncomputable def fi3 : FI := ⟨3, 96, Tryd.f3.body.getD .skip, Tryd.f3.results.toList, an3⟩
theorem ok3 : FnOk Tryd.prog 3 fi3 := ⟨⟨Tryd.f3, Tryd.func3, by kernel_rfl, rfl, rfl, rfl⟩, by decide, by kernel_rfl⟩

set_option maxHeartbeats 4000000 in
set_option maxRecDepth 10000 in
theorem run3 (C : Callees) (hk : Known11 C) (hs : ∀ B, C 14 [] B = some (.bool true, B)) (l : List Int) (p : Perm) (bes n : Int) (B : Hp) :
    runV T C fi3 [.vec 1 (l.map (.int .i64)) p, .int .i64 bes, .int .i64 n] B = some (.bool true, B) := by
  have hsp := hk.split l _ bes B (.inr ⟨dp p, rfl⟩)
  rw [split_ref] at hsp
  have hrf := hk.ref l _ bes B (.inr ⟨dp p, rfl⟩)
  generalize refSplitS l bes = r at hsp hrf
  obtain ⟨m, f⟩ := r
  simp only at hsp hrf
  have hm := hk.most n B
  have hen := hk.enough n B
  have hfi := hk.fits n B
  have he : decide (126 ≤ n) = decide (n > 125) := by rw [decide_eq_decide]; omega
  have hq : decide (n ≤ 504) = decide (n < 505) := by rw [decide_eq_decide]; omega
  have hz : decide (0 ≤ n) = decide (n ≥ 0) := rfl
  rw [he] at hen
  rw [hq, hz] at hfi
  have hfn : ∀ (f : Int), C 18 [if f = 0 then .nili else .iface 77 (.int .i64 f)] B = some (.int .i64 f, B) := fun f => by
    split
    · rename_i h; subst h; exact hk.numN B
    · exact hk.numE f B
  rw [e_run _ _ _ rfl]
  by_cases hf : f = 0
  · subst hf
    simp only [if_true] at hsp
    by_cases hn : n < 0 ∨ 1073741824 < n
    · simp only [mostS, hn, if_true] at hm
      simp only [fi3, Tryd.f3, an3, hsp, hrf, hm, hen, hfi, hs, hk.numN, hk.numE, T3, T4, T22, T25, e_seq, e_region, e_block, e_cond, e_ret, e_skip, e_exit, e_plain, e_guard, e_nil, e_op, e_ifT, e_ifF, e_true, e_false, e_loop, e_l, e_top, e_seqN, e_seqE, e_seqR, e_blockN, e_blockR, e_blockE,
    e_finN, e_finX, e_finR, retV, resV, resL, outCL, outC, outL, outD, wantedV, opV, An.at_, prune, List.map_cons, List.map_nil, envOf, get, put, eval, ofV, nbeq, nble, binV, binV.aggV, unV, intV, eqOp, isConst, natV, optV, loadV, loadC, storeV, setC, St.at_, partV, indexAddrV, fieldAddrV, sliceV, sliceV.rowSl, sliceV.strSl, bounds, cutP,
    builtinV, lenV, maxL, maxV, appendV, St.elems, roomy, rowOf, rowS, isStr, esz, tdOf, convV, buildV, fillV, partsV, okParts, fillL, D.whole, D.demoteC, D.demote, demoteL, D.global, D.leaf, D.cells, TI.agg, TD.rowish, callOpV, St.borrowL, St.borrow, D.isLsl, adoptR, adoptC, adoptCL, adoptL, adopt, upd,
    List.toArray, Array.toList, List.length_cons, List.length_nil, List.length_map, List.length_append, List.length_replicate, ← List.map_take, ← List.map_drop, List.drop_zero, Nat.zero_le, Nat.le_refl, Nat.sub_zero, List.getElem?_cons_succ, List.getElem?_cons_zero, List.getElem?_nil, List.any_cons, List.any_nil, List.all_cons, List.all_nil, List.append_nil, List.nil_append, List.cons_append, List.set_cons_zero, List.set_cons_succ,
    cond_true, cond_false, decide_true, decide_false, Bool.true_and, Bool.and_true, Bool.false_and, Bool.and_false, Bool.true_or, Bool.or_true, Bool.false_or, Bool.or_false, Bool.not_true, Bool.not_false, Bool.and_self, Bool.or_self, bT, bF, ieq, ine, decide_eq_true_eq, decide_not,
    Nat.reduceEqDiff, Nat.reduceAdd, Nat.reduceSub, Nat.reduceMul, Nat.reduceLeDiff, Nat.reduceLT, Nat.zero_add, Nat.add_zero, Option.getD_some, Option.getD_none, Option.isSome_some, Option.isSome_none, reduceIte, reduceCtorEq, and_self, and_true, true_and, not_true_eq_false, not_false_eq_true, false_imp_iff, forall_const, imp_self,
    Int.reduceNeg, Int.reduceLT, Int.reduceLE, Int.reduceAdd, Int.reduceSub, Int.reduceMul, Int.reduceToNat, Int.reduceEq, ne_eq, eq_self, beq_self_eq_true]
      repeat' ((first | rw [e_if] | rw [e_bool]); split <;> rename_i hc <;> (try simp only [bT, bF, Bool.not_eq_true', decide_eq_true_eq, decide_eq_false_iff_not, Bool.not_eq_true, Bool.not_eq_false, Decidable.not_not] at hc) <;> simp only [hc, hsp, hrf, hm, hen, hfi, hs, hk.numN, hk.numE, T3, T4, T22, T25, e_seq, e_region, e_block, e_cond, e_ret, e_skip, e_exit, e_plain, e_guard, e_nil, e_op, e_ifT, e_ifF, e_true, e_false, e_loop, e_l, e_top, e_seqN, e_seqE, e_seqR, e_blockN, e_blockR, e_blockE,
    e_finN, e_finX, e_finR, retV, resV, resL, outCL, outC, outL, outD, wantedV, opV, An.at_, prune, List.map_cons, List.map_nil, envOf, get, put, eval, ofV, nbeq, nble, binV, binV.aggV, unV, intV, eqOp, isConst, natV, optV, loadV, loadC, storeV, setC, St.at_, partV, indexAddrV, fieldAddrV, sliceV, sliceV.rowSl, sliceV.strSl, bounds, cutP,
    builtinV, lenV, maxL, maxV, appendV, St.elems, roomy, rowOf, rowS, isStr, esz, tdOf, convV, buildV, fillV, partsV, okParts, fillL, D.whole, D.demoteC, D.demote, demoteL, D.global, D.leaf, D.cells, TI.agg, TD.rowish, callOpV, St.borrowL, St.borrow, D.isLsl, adoptR, adoptC, adoptCL, adoptL, adopt, upd,
    List.toArray, Array.toList, List.length_cons, List.length_nil, List.length_map, List.length_append, List.length_replicate, ← List.map_take, ← List.map_drop, List.drop_zero, Nat.zero_le, Nat.le_refl, Nat.sub_zero, List.getElem?_cons_succ, List.getElem?_cons_zero, List.getElem?_nil, List.any_cons, List.any_nil, List.all_cons, List.all_nil, List.append_nil, List.nil_append, List.cons_append, List.set_cons_zero, List.set_cons_succ,
    cond_true, cond_false, decide_true, decide_false, Bool.true_and, Bool.and_true, Bool.false_and, Bool.and_false, Bool.true_or, Bool.or_true, Bool.false_or, Bool.or_false, Bool.not_true, Bool.not_false, Bool.and_self, Bool.or_self, bT, bF, ieq, ine, decide_eq_true_eq, decide_not,
    Nat.reduceEqDiff, Nat.reduceAdd, Nat.reduceSub, Nat.reduceMul, Nat.reduceLeDiff, Nat.reduceLT, Nat.zero_add, Nat.add_zero, Option.getD_some, Option.getD_none, Option.isSome_some, Option.isSome_none, reduceIte, reduceCtorEq, and_self, and_true, true_and, not_true_eq_false, not_false_eq_true, false_imp_iff, forall_const, imp_self,
    Int.reduceNeg, Int.reduceLT, Int.reduceLE, Int.reduceAdd, Int.reduceSub, Int.reduceMul, Int.reduceToNat, Int.reduceEq, ne_eq, eq_self, beq_self_eq_true])
      all_goals (exfalso; first | omega | (simp at hc; done) | (simp_all; done) | (simp_all; omega))
    · simp only [mostS, hn, if_false] at hm
      have h1 := Int.tdiv_eq_ediv_of_nonneg (a := n) (b := 126) (by omega)
      have h2 := wrapI (x := n / 126) (by omega) (by omega)
      have h3 := wrapI (x := 1 + n / 126) (by omega) (by omega)
      simp only [fi3, Tryd.f3, an3, hsp, hrf, hm, hen, hfi, hs, hk.numN, hk.numE, h1, h2, h3, T3, T4, T22, T25, e_seq, e_region, e_block, e_cond, e_ret, e_skip, e_exit, e_plain, e_guard, e_nil, e_op, e_ifT, e_ifF, e_true, e_false, e_loop, e_l, e_top, e_seqN, e_seqE, e_seqR, e_blockN, e_blockR, e_blockE,
    e_finN, e_finX, e_finR, retV, resV, resL, outCL, outC, outL, outD, wantedV, opV, An.at_, prune, List.map_cons, List.map_nil, envOf, get, put, eval, ofV, nbeq, nble, binV, binV.aggV, unV, intV, eqOp, isConst, natV, optV, loadV, loadC, storeV, setC, St.at_, partV, indexAddrV, fieldAddrV, sliceV, sliceV.rowSl, sliceV.strSl, bounds, cutP,
    builtinV, lenV, maxL, maxV, appendV, St.elems, roomy, rowOf, rowS, isStr, esz, tdOf, convV, buildV, fillV, partsV, okParts, fillL, D.whole, D.demoteC, D.demote, demoteL, D.global, D.leaf, D.cells, TI.agg, TD.rowish, callOpV, St.borrowL, St.borrow, D.isLsl, adoptR, adoptC, adoptCL, adoptL, adopt, upd,
    List.toArray, Array.toList, List.length_cons, List.length_nil, List.length_map, List.length_append, List.length_replicate, ← List.map_take, ← List.map_drop, List.drop_zero, Nat.zero_le, Nat.le_refl, Nat.sub_zero, List.getElem?_cons_succ, List.getElem?_cons_zero, List.getElem?_nil, List.any_cons, List.any_nil, List.all_cons, List.all_nil, List.append_nil, List.nil_append, List.cons_append, List.set_cons_zero, List.set_cons_succ,
    cond_true, cond_false, decide_true, decide_false, Bool.true_and, Bool.and_true, Bool.false_and, Bool.and_false, Bool.true_or, Bool.or_true, Bool.false_or, Bool.or_false, Bool.not_true, Bool.not_false, Bool.and_self, Bool.or_self, bT, bF, ieq, ine, decide_eq_true_eq, decide_not,
    Nat.reduceEqDiff, Nat.reduceAdd, Nat.reduceSub, Nat.reduceMul, Nat.reduceLeDiff, Nat.reduceLT, Nat.zero_add, Nat.add_zero, Option.getD_some, Option.getD_none, Option.isSome_some, Option.isSome_none, reduceIte, reduceCtorEq, and_self, and_true, true_and, not_true_eq_false, not_false_eq_true, false_imp_iff, forall_const, imp_self,
    Int.reduceNeg, Int.reduceLT, Int.reduceLE, Int.reduceAdd, Int.reduceSub, Int.reduceMul, Int.reduceToNat, Int.reduceEq, ne_eq, eq_self, beq_self_eq_true]
      repeat' ((first | rw [e_if] | rw [e_bool]); split <;> rename_i hc <;> (try simp only [bT, bF, Bool.not_eq_true', decide_eq_true_eq, decide_eq_false_iff_not, Bool.not_eq_true, Bool.not_eq_false, Decidable.not_not] at hc) <;> simp only [hc, hsp, hrf, hm, hen, hfi, hs, hk.numN, hk.numE, h1, h2, h3, T3, T4, T22, T25, e_seq, e_region, e_block, e_cond, e_ret, e_skip, e_exit, e_plain, e_guard, e_nil, e_op, e_ifT, e_ifF, e_true, e_false, e_loop, e_l, e_top, e_seqN, e_seqE, e_seqR, e_blockN, e_blockR, e_blockE,
    e_finN, e_finX, e_finR, retV, resV, resL, outCL, outC, outL, outD, wantedV, opV, An.at_, prune, List.map_cons, List.map_nil, envOf, get, put, eval, ofV, nbeq, nble, binV, binV.aggV, unV, intV, eqOp, isConst, natV, optV, loadV, loadC, storeV, setC, St.at_, partV, indexAddrV, fieldAddrV, sliceV, sliceV.rowSl, sliceV.strSl, bounds, cutP,
    builtinV, lenV, maxL, maxV, appendV, St.elems, roomy, rowOf, rowS, isStr, esz, tdOf, convV, buildV, fillV, partsV, okParts, fillL, D.whole, D.demoteC, D.demote, demoteL, D.global, D.leaf, D.cells, TI.agg, TD.rowish, callOpV, St.borrowL, St.borrow, D.isLsl, adoptR, adoptC, adoptCL, adoptL, adopt, upd,
    List.toArray, Array.toList, List.length_cons, List.length_nil, List.length_map, List.length_append, List.length_replicate, ← List.map_take, ← List.map_drop, List.drop_zero, Nat.zero_le, Nat.le_refl, Nat.sub_zero, List.getElem?_cons_succ, List.getElem?_cons_zero, List.getElem?_nil, List.any_cons, List.any_nil, List.all_cons, List.all_nil, List.append_nil, List.nil_append, List.cons_append, List.set_cons_zero, List.set_cons_succ,
    cond_true, cond_false, decide_true, decide_false, Bool.true_and, Bool.and_true, Bool.false_and, Bool.and_false, Bool.true_or, Bool.or_true, Bool.false_or, Bool.or_false, Bool.not_true, Bool.not_false, Bool.and_self, Bool.or_self, bT, bF, ieq, ine, decide_eq_true_eq, decide_not,
    Nat.reduceEqDiff, Nat.reduceAdd, Nat.reduceSub, Nat.reduceMul, Nat.reduceLeDiff, Nat.reduceLT, Nat.zero_add, Nat.add_zero, Option.getD_some, Option.getD_none, Option.isSome_some, Option.isSome_none, reduceIte, reduceCtorEq, and_self, and_true, true_and, not_true_eq_false, not_false_eq_true, false_imp_iff, forall_const, imp_self,
    Int.reduceNeg, Int.reduceLT, Int.reduceLE, Int.reduceAdd, Int.reduceSub, Int.reduceMul, Int.reduceToNat, Int.reduceEq, ne_eq, eq_self, beq_self_eq_true])
      all_goals (exfalso; first | omega | (simp at hc; done) | (simp_all; done) | (simp_all; omega))
  · simp only [hf, if_false] at hsp
    by_cases hn : n < 0 ∨ 1073741824 < n
    · simp only [mostS, hn, if_true] at hm
      simp only [fi3, Tryd.f3, an3, hsp, hrf, hm, hen, hfi, hs, hk.numN, hk.numE, T3, T4, T22, T25, e_seq, e_region, e_block, e_cond, e_ret, e_skip, e_exit, e_plain, e_guard, e_nil, e_op, e_ifT, e_ifF, e_true, e_false, e_loop, e_l, e_top, e_seqN, e_seqE, e_seqR, e_blockN, e_blockR, e_blockE,
    e_finN, e_finX, e_finR, retV, resV, resL, outCL, outC, outL, outD, wantedV, opV, An.at_, prune, List.map_cons, List.map_nil, envOf, get, put, eval, ofV, nbeq, nble, binV, binV.aggV, unV, intV, eqOp, isConst, natV, optV, loadV, loadC, storeV, setC, St.at_, partV, indexAddrV, fieldAddrV, sliceV, sliceV.rowSl, sliceV.strSl, bounds, cutP,
    builtinV, lenV, maxL, maxV, appendV, St.elems, roomy, rowOf, rowS, isStr, esz, tdOf, convV, buildV, fillV, partsV, okParts, fillL, D.whole, D.demoteC, D.demote, demoteL, D.global, D.leaf, D.cells, TI.agg, TD.rowish, callOpV, St.borrowL, St.borrow, D.isLsl, adoptR, adoptC, adoptCL, adoptL, adopt, upd,
    List.toArray, Array.toList, List.length_cons, List.length_nil, List.length_map, List.length_append, List.length_replicate, ← List.map_take, ← List.map_drop, List.drop_zero, Nat.zero_le, Nat.le_refl, Nat.sub_zero, List.getElem?_cons_succ, List.getElem?_cons_zero, List.getElem?_nil, List.any_cons, List.any_nil, List.all_cons, List.all_nil, List.append_nil, List.nil_append, List.cons_append, List.set_cons_zero, List.set_cons_succ,
    cond_true, cond_false, decide_true, decide_false, Bool.true_and, Bool.and_true, Bool.false_and, Bool.and_false, Bool.true_or, Bool.or_true, Bool.false_or, Bool.or_false, Bool.not_true, Bool.not_false, Bool.and_self, Bool.or_self, bT, bF, ieq, ine, decide_eq_true_eq, decide_not,
    Nat.reduceEqDiff, Nat.reduceAdd, Nat.reduceSub, Nat.reduceMul, Nat.reduceLeDiff, Nat.reduceLT, Nat.zero_add, Nat.add_zero, Option.getD_some, Option.getD_none, Option.isSome_some, Option.isSome_none, reduceIte, reduceCtorEq, and_self, and_true, true_and, not_true_eq_false, not_false_eq_true, false_imp_iff, forall_const, imp_self,
    Int.reduceNeg, Int.reduceLT, Int.reduceLE, Int.reduceAdd, Int.reduceSub, Int.reduceMul, Int.reduceToNat, Int.reduceEq, ne_eq, eq_self, beq_self_eq_true]
      repeat' ((first | rw [e_if] | rw [e_bool]); split <;> rename_i hc <;> (try simp only [bT, bF, Bool.not_eq_true', decide_eq_true_eq, decide_eq_false_iff_not, Bool.not_eq_true, Bool.not_eq_false, Decidable.not_not] at hc) <;> simp only [hc, hsp, hrf, hm, hen, hfi, hs, hk.numN, hk.numE, T3, T4, T22, T25, e_seq, e_region, e_block, e_cond, e_ret, e_skip, e_exit, e_plain, e_guard, e_nil, e_op, e_ifT, e_ifF, e_true, e_false, e_loop, e_l, e_top, e_seqN, e_seqE, e_seqR, e_blockN, e_blockR, e_blockE,
    e_finN, e_finX, e_finR, retV, resV, resL, outCL, outC, outL, outD, wantedV, opV, An.at_, prune, List.map_cons, List.map_nil, envOf, get, put, eval, ofV, nbeq, nble, binV, binV.aggV, unV, intV, eqOp, isConst, natV, optV, loadV, loadC, storeV, setC, St.at_, partV, indexAddrV, fieldAddrV, sliceV, sliceV.rowSl, sliceV.strSl, bounds, cutP,
    builtinV, lenV, maxL, maxV, appendV, St.elems, roomy, rowOf, rowS, isStr, esz, tdOf, convV, buildV, fillV, partsV, okParts, fillL, D.whole, D.demoteC, D.demote, demoteL, D.global, D.leaf, D.cells, TI.agg, TD.rowish, callOpV, St.borrowL, St.borrow, D.isLsl, adoptR, adoptC, adoptCL, adoptL, adopt, upd,
    List.toArray, Array.toList, List.length_cons, List.length_nil, List.length_map, List.length_append, List.length_replicate, ← List.map_take, ← List.map_drop, List.drop_zero, Nat.zero_le, Nat.le_refl, Nat.sub_zero, List.getElem?_cons_succ, List.getElem?_cons_zero, List.getElem?_nil, List.any_cons, List.any_nil, List.all_cons, List.all_nil, List.append_nil, List.nil_append, List.cons_append, List.set_cons_zero, List.set_cons_succ,
    cond_true, cond_false, decide_true, decide_false, Bool.true_and, Bool.and_true, Bool.false_and, Bool.and_false, Bool.true_or, Bool.or_true, Bool.false_or, Bool.or_false, Bool.not_true, Bool.not_false, Bool.and_self, Bool.or_self, bT, bF, ieq, ine, decide_eq_true_eq, decide_not,
    Nat.reduceEqDiff, Nat.reduceAdd, Nat.reduceSub, Nat.reduceMul, Nat.reduceLeDiff, Nat.reduceLT, Nat.zero_add, Nat.add_zero, Option.getD_some, Option.getD_none, Option.isSome_some, Option.isSome_none, reduceIte, reduceCtorEq, and_self, and_true, true_and, not_true_eq_false, not_false_eq_true, false_imp_iff, forall_const, imp_self,
    Int.reduceNeg, Int.reduceLT, Int.reduceLE, Int.reduceAdd, Int.reduceSub, Int.reduceMul, Int.reduceToNat, Int.reduceEq, ne_eq, eq_self, beq_self_eq_true])
      all_goals (exfalso; first | omega | (simp at hc; done) | (simp_all; done) | (simp_all; omega))
    · simp only [mostS, hn, if_false] at hm
      have h1 := Int.tdiv_eq_ediv_of_nonneg (a := n) (b := 126) (by omega)
      have h2 := wrapI (x := n / 126) (by omega) (by omega)
      have h3 := wrapI (x := 1 + n / 126) (by omega) (by omega)
      simp only [fi3, Tryd.f3, an3, hsp, hrf, hm, hen, hfi, hs, hk.numN, hk.numE, h1, h2, h3, T3, T4, T22, T25, e_seq, e_region, e_block, e_cond, e_ret, e_skip, e_exit, e_plain, e_guard, e_nil, e_op, e_ifT, e_ifF, e_true, e_false, e_loop, e_l, e_top, e_seqN, e_seqE, e_seqR, e_blockN, e_blockR, e_blockE,
    e_finN, e_finX, e_finR, retV, resV, resL, outCL, outC, outL, outD, wantedV, opV, An.at_, prune, List.map_cons, List.map_nil, envOf, get, put, eval, ofV, nbeq, nble, binV, binV.aggV, unV, intV, eqOp, isConst, natV, optV, loadV, loadC, storeV, setC, St.at_, partV, indexAddrV, fieldAddrV, sliceV, sliceV.rowSl, sliceV.strSl, bounds, cutP,
    builtinV, lenV, maxL, maxV, appendV, St.elems, roomy, rowOf, rowS, isStr, esz, tdOf, convV, buildV, fillV, partsV, okParts, fillL, D.whole, D.demoteC, D.demote, demoteL, D.global, D.leaf, D.cells, TI.agg, TD.rowish, callOpV, St.borrowL, St.borrow, D.isLsl, adoptR, adoptC, adoptCL, adoptL, adopt, upd,
    List.toArray, Array.toList, List.length_cons, List.length_nil, List.length_map, List.length_append, List.length_replicate, ← List.map_take, ← List.map_drop, List.drop_zero, Nat.zero_le, Nat.le_refl, Nat.sub_zero, List.getElem?_cons_succ, List.getElem?_cons_zero, List.getElem?_nil, List.any_cons, List.any_nil, List.all_cons, List.all_nil, List.append_nil, List.nil_append, List.cons_append, List.set_cons_zero, List.set_cons_succ,
    cond_true, cond_false, decide_true, decide_false, Bool.true_and, Bool.and_true, Bool.false_and, Bool.and_false, Bool.true_or, Bool.or_true, Bool.false_or, Bool.or_false, Bool.not_true, Bool.not_false, Bool.and_self, Bool.or_self, bT, bF, ieq, ine, decide_eq_true_eq, decide_not,
    Nat.reduceEqDiff, Nat.reduceAdd, Nat.reduceSub, Nat.reduceMul, Nat.reduceLeDiff, Nat.reduceLT, Nat.zero_add, Nat.add_zero, Option.getD_some, Option.getD_none, Option.isSome_some, Option.isSome_none, reduceIte, reduceCtorEq, and_self, and_true, true_and, not_true_eq_false, not_false_eq_true, false_imp_iff, forall_const, imp_self,
    Int.reduceNeg, Int.reduceLT, Int.reduceLE, Int.reduceAdd, Int.reduceSub, Int.reduceMul, Int.reduceToNat, Int.reduceEq, ne_eq, eq_self, beq_self_eq_true]
      repeat' ((first | rw [e_if] | rw [e_bool]); split <;> rename_i hc <;> (try simp only [bT, bF, Bool.not_eq_true', decide_eq_true_eq, decide_eq_false_iff_not, Bool.not_eq_true, Bool.not_eq_false, Decidable.not_not] at hc) <;> simp only [hc, hsp, hrf, hm, hen, hfi, hs, hk.numN, hk.numE, h1, h2, h3, T3, T4, T22, T25, e_seq, e_region, e_block, e_cond, e_ret, e_skip, e_exit, e_plain, e_guard, e_nil, e_op, e_ifT, e_ifF, e_true, e_false, e_loop, e_l, e_top, e_seqN, e_seqE, e_seqR, e_blockN, e_blockR, e_blockE,
    e_finN, e_finX, e_finR, retV, resV, resL, outCL, outC, outL, outD, wantedV, opV, An.at_, prune, List.map_cons, List.map_nil, envOf, get, put, eval, ofV, nbeq, nble, binV, binV.aggV, unV, intV, eqOp, isConst, natV, optV, loadV, loadC, storeV, setC, St.at_, partV, indexAddrV, fieldAddrV, sliceV, sliceV.rowSl, sliceV.strSl, bounds, cutP,
    builtinV, lenV, maxL, maxV, appendV, St.elems, roomy, rowOf, rowS, isStr, esz, tdOf, convV, buildV, fillV, partsV, okParts, fillL, D.whole, D.demoteC, D.demote, demoteL, D.global, D.leaf, D.cells, TI.agg, TD.rowish, callOpV, St.borrowL, St.borrow, D.isLsl, adoptR, adoptC, adoptCL, adoptL, adopt, upd,
    List.toArray, Array.toList, List.length_cons, List.length_nil, List.length_map, List.length_append, List.length_replicate, ← List.map_take, ← List.map_drop, List.drop_zero, Nat.zero_le, Nat.le_refl, Nat.sub_zero, List.getElem?_cons_succ, List.getElem?_cons_zero, List.getElem?_nil, List.any_cons, List.any_nil, List.all_cons, List.all_nil, List.append_nil, List.nil_append, List.cons_append, List.set_cons_zero, List.set_cons_succ,
    cond_true, cond_false, decide_true, decide_false, Bool.true_and, Bool.and_true, Bool.false_and, Bool.and_false, Bool.true_or, Bool.or_true, Bool.false_or, Bool.or_false, Bool.not_true, Bool.not_false, Bool.and_self, Bool.or_self, bT, bF, ieq, ine, decide_eq_true_eq, decide_not,
    Nat.reduceEqDiff, Nat.reduceAdd, Nat.reduceSub, Nat.reduceMul, Nat.reduceLeDiff, Nat.reduceLT, Nat.zero_add, Nat.add_zero, Option.getD_some, Option.getD_none, Option.isSome_some, Option.isSome_none, reduceIte, reduceCtorEq, and_self, and_true, true_and, not_true_eq_false, not_false_eq_true, false_imp_iff, forall_const, imp_self,
    Int.reduceNeg, Int.reduceLT, Int.reduceLE, Int.reduceAdd, Int.reduceSub, Int.reduceMul, Int.reduceToNat, Int.reduceEq, ne_eq, eq_self, beq_self_eq_true])
      all_goals (exfalso; first | omega | (simp at hc; done) | (simp_all; done) | (simp_all; omega))

set_option maxHeartbeats 4000000 in
set_option maxRecDepth 10000 in
theorem run3_nil (C : Callees) (hk : Known11 C) (hs : ∀ B, C 14 [] B = some (.bool true, B)) (bes n : Int) (B : Hp) :
    runV T C fi3 [.nilsl, .int .i64 bes, .int .i64 n] B = some (.bool true, B) := by
  have hsp := hk.split [] .nilsl bes B (.inl ⟨rfl, rfl⟩)
  rw [split_ref] at hsp
  have hrf := hk.ref [] .nilsl bes B (.inl ⟨rfl, rfl⟩)
  generalize refSplitS [] bes = r at hsp hrf
  obtain ⟨m, f⟩ := r
  simp only at hsp hrf
  have hm := hk.most n B
  have hen := hk.enough n B
  have hfi := hk.fits n B
  have he : decide (126 ≤ n) = decide (n > 125) := by rw [decide_eq_decide]; omega
  have hq : decide (n ≤ 504) = decide (n < 505) := by rw [decide_eq_decide]; omega
  have hz : decide (0 ≤ n) = decide (n ≥ 0) := rfl
  rw [he] at hen
  rw [hq, hz] at hfi
  have hfn : ∀ (f : Int), C 18 [if f = 0 then .nili else .iface 77 (.int .i64 f)] B = some (.int .i64 f, B) := fun f => by
    split
    · rename_i h; subst h; exact hk.numN B
    · exact hk.numE f B
  rw [e_run _ _ _ rfl]
  by_cases hf : f = 0
  · subst hf
    simp only [if_true] at hsp
    by_cases hn : n < 0 ∨ 1073741824 < n
    · simp only [mostS, hn, if_true] at hm
      simp only [fi3, Tryd.f3, an3, hsp, hrf, hm, hen, hfi, hs, hk.numN, hk.numE, T3, T4, T22, T25, e_seq, e_region, e_block, e_cond, e_ret, e_skip, e_exit, e_plain, e_guard, e_nil, e_op, e_ifT, e_ifF, e_true, e_false, e_loop, e_l, e_top, e_seqN, e_seqE, e_seqR, e_blockN, e_blockR, e_blockE,
    e_finN, e_finX, e_finR, retV, resV, resL, outCL, outC, outL, outD, wantedV, opV, An.at_, prune, List.map_cons, List.map_nil, envOf, get, put, eval, ofV, nbeq, nble, binV, binV.aggV, unV, intV, eqOp, isConst, natV, optV, loadV, loadC, storeV, setC, St.at_, partV, indexAddrV, fieldAddrV, sliceV, sliceV.rowSl, sliceV.strSl, bounds, cutP,
    builtinV, lenV, maxL, maxV, appendV, St.elems, roomy, rowOf, rowS, isStr, esz, tdOf, convV, buildV, fillV, partsV, okParts, fillL, D.whole, D.demoteC, D.demote, demoteL, D.global, D.leaf, D.cells, TI.agg, TD.rowish, callOpV, St.borrowL, St.borrow, D.isLsl, adoptR, adoptC, adoptCL, adoptL, adopt, upd,
    List.toArray, Array.toList, List.length_cons, List.length_nil, List.length_map, List.length_append, List.length_replicate, ← List.map_take, ← List.map_drop, List.drop_zero, Nat.zero_le, Nat.le_refl, Nat.sub_zero, List.getElem?_cons_succ, List.getElem?_cons_zero, List.getElem?_nil, List.any_cons, List.any_nil, List.all_cons, List.all_nil, List.append_nil, List.nil_append, List.cons_append, List.set_cons_zero, List.set_cons_succ,
    cond_true, cond_false, decide_true, decide_false, Bool.true_and, Bool.and_true, Bool.false_and, Bool.and_false, Bool.true_or, Bool.or_true, Bool.false_or, Bool.or_false, Bool.not_true, Bool.not_false, Bool.and_self, Bool.or_self, bT, bF, ieq, ine, decide_eq_true_eq, decide_not,
    Nat.reduceEqDiff, Nat.reduceAdd, Nat.reduceSub, Nat.reduceMul, Nat.reduceLeDiff, Nat.reduceLT, Nat.zero_add, Nat.add_zero, Option.getD_some, Option.getD_none, Option.isSome_some, Option.isSome_none, reduceIte, reduceCtorEq, and_self, and_true, true_and, not_true_eq_false, not_false_eq_true, false_imp_iff, forall_const, imp_self,
    Int.reduceNeg, Int.reduceLT, Int.reduceLE, Int.reduceAdd, Int.reduceSub, Int.reduceMul, Int.reduceToNat, Int.reduceEq, ne_eq, eq_self, beq_self_eq_true]
      repeat' ((first | rw [e_if] | rw [e_bool]); split <;> rename_i hc <;> (try simp only [bT, bF, Bool.not_eq_true', decide_eq_true_eq, decide_eq_false_iff_not, Bool.not_eq_true, Bool.not_eq_false, Decidable.not_not] at hc) <;> simp only [hc, hsp, hrf, hm, hen, hfi, hs, hk.numN, hk.numE, T3, T4, T22, T25, e_seq, e_region, e_block, e_cond, e_ret, e_skip, e_exit, e_plain, e_guard, e_nil, e_op, e_ifT, e_ifF, e_true, e_false, e_loop, e_l, e_top, e_seqN, e_seqE, e_seqR, e_blockN, e_blockR, e_blockE,
    e_finN, e_finX, e_finR, retV, resV, resL, outCL, outC, outL, outD, wantedV, opV, An.at_, prune, List.map_cons, List.map_nil, envOf, get, put, eval, ofV, nbeq, nble, binV, binV.aggV, unV, intV, eqOp, isConst, natV, optV, loadV, loadC, storeV, setC, St.at_, partV, indexAddrV, fieldAddrV, sliceV, sliceV.rowSl, sliceV.strSl, bounds, cutP,
    builtinV, lenV, maxL, maxV, appendV, St.elems, roomy, rowOf, rowS, isStr, esz, tdOf, convV, buildV, fillV, partsV, okParts, fillL, D.whole, D.demoteC, D.demote, demoteL, D.global, D.leaf, D.cells, TI.agg, TD.rowish, callOpV, St.borrowL, St.borrow, D.isLsl, adoptR, adoptC, adoptCL, adoptL, adopt, upd,
    List.toArray, Array.toList, List.length_cons, List.length_nil, List.length_map, List.length_append, List.length_replicate, ← List.map_take, ← List.map_drop, List.drop_zero, Nat.zero_le, Nat.le_refl, Nat.sub_zero, List.getElem?_cons_succ, List.getElem?_cons_zero, List.getElem?_nil, List.any_cons, List.any_nil, List.all_cons, List.all_nil, List.append_nil, List.nil_append, List.cons_append, List.set_cons_zero, List.set_cons_succ,
    cond_true, cond_false, decide_true, decide_false, Bool.true_and, Bool.and_true, Bool.false_and, Bool.and_false, Bool.true_or, Bool.or_true, Bool.false_or, Bool.or_false, Bool.not_true, Bool.not_false, Bool.and_self, Bool.or_self, bT, bF, ieq, ine, decide_eq_true_eq, decide_not,
    Nat.reduceEqDiff, Nat.reduceAdd, Nat.reduceSub, Nat.reduceMul, Nat.reduceLeDiff, Nat.reduceLT, Nat.zero_add, Nat.add_zero, Option.getD_some, Option.getD_none, Option.isSome_some, Option.isSome_none, reduceIte, reduceCtorEq, and_self, and_true, true_and, not_true_eq_false, not_false_eq_true, false_imp_iff, forall_const, imp_self,
    Int.reduceNeg, Int.reduceLT, Int.reduceLE, Int.reduceAdd, Int.reduceSub, Int.reduceMul, Int.reduceToNat, Int.reduceEq, ne_eq, eq_self, beq_self_eq_true])
      all_goals (exfalso; first | omega | (simp at hc; done) | (simp_all; done) | (simp_all; omega))
    · simp only [mostS, hn, if_false] at hm
      have h1 := Int.tdiv_eq_ediv_of_nonneg (a := n) (b := 126) (by omega)
      have h2 := wrapI (x := n / 126) (by omega) (by omega)
      have h3 := wrapI (x := 1 + n / 126) (by omega) (by omega)
      simp only [fi3, Tryd.f3, an3, hsp, hrf, hm, hen, hfi, hs, hk.numN, hk.numE, h1, h2, h3, T3, T4, T22, T25, e_seq, e_region, e_block, e_cond, e_ret, e_skip, e_exit, e_plain, e_guard, e_nil, e_op, e_ifT, e_ifF, e_true, e_false, e_loop, e_l, e_top, e_seqN, e_seqE, e_seqR, e_blockN, e_blockR, e_blockE,
    e_finN, e_finX, e_finR, retV, resV, resL, outCL, outC, outL, outD, wantedV, opV, An.at_, prune, List.map_cons, List.map_nil, envOf, get, put, eval, ofV, nbeq, nble, binV, binV.aggV, unV, intV, eqOp, isConst, natV, optV, loadV, loadC, storeV, setC, St.at_, partV, indexAddrV, fieldAddrV, sliceV, sliceV.rowSl, sliceV.strSl, bounds, cutP,
    builtinV, lenV, maxL, maxV, appendV, St.elems, roomy, rowOf, rowS, isStr, esz, tdOf, convV, buildV, fillV, partsV, okParts, fillL, D.whole, D.demoteC, D.demote, demoteL, D.global, D.leaf, D.cells, TI.agg, TD.rowish, callOpV, St.borrowL, St.borrow, D.isLsl, adoptR, adoptC, adoptCL, adoptL, adopt, upd,
    List.toArray, Array.toList, List.length_cons, List.length_nil, List.length_map, List.length_append, List.length_replicate, ← List.map_take, ← List.map_drop, List.drop_zero, Nat.zero_le, Nat.le_refl, Nat.sub_zero, List.getElem?_cons_succ, List.getElem?_cons_zero, List.getElem?_nil, List.any_cons, List.any_nil, List.all_cons, List.all_nil, List.append_nil, List.nil_append, List.cons_append, List.set_cons_zero, List.set_cons_succ,
    cond_true, cond_false, decide_true, decide_false, Bool.true_and, Bool.and_true, Bool.false_and, Bool.and_false, Bool.true_or, Bool.or_true, Bool.false_or, Bool.or_false, Bool.not_true, Bool.not_false, Bool.and_self, Bool.or_self, bT, bF, ieq, ine, decide_eq_true_eq, decide_not,
    Nat.reduceEqDiff, Nat.reduceAdd, Nat.reduceSub, Nat.reduceMul, Nat.reduceLeDiff, Nat.reduceLT, Nat.zero_add, Nat.add_zero, Option.getD_some, Option.getD_none, Option.isSome_some, Option.isSome_none, reduceIte, reduceCtorEq, and_self, and_true, true_and, not_true_eq_false, not_false_eq_true, false_imp_iff, forall_const, imp_self,
    Int.reduceNeg, Int.reduceLT, Int.reduceLE, Int.reduceAdd, Int.reduceSub, Int.reduceMul, Int.reduceToNat, Int.reduceEq, ne_eq, eq_self, beq_self_eq_true]
      repeat' ((first | rw [e_if] | rw [e_bool]); split <;> rename_i hc <;> (try simp only [bT, bF, Bool.not_eq_true', decide_eq_true_eq, decide_eq_false_iff_not, Bool.not_eq_true, Bool.not_eq_false, Decidable.not_not] at hc) <;> simp only [hc, hsp, hrf, hm, hen, hfi, hs, hk.numN, hk.numE, h1, h2, h3, T3, T4, T22, T25, e_seq, e_region, e_block, e_cond, e_ret, e_skip, e_exit, e_plain, e_guard, e_nil, e_op, e_ifT, e_ifF, e_true, e_false, e_loop, e_l, e_top, e_seqN, e_seqE, e_seqR, e_blockN, e_blockR, e_blockE,
    e_finN, e_finX, e_finR, retV, resV, resL, outCL, outC, outL, outD, wantedV, opV, An.at_, prune, List.map_cons, List.map_nil, envOf, get, put, eval, ofV, nbeq, nble, binV, binV.aggV, unV, intV, eqOp, isConst, natV, optV, loadV, loadC, storeV, setC, St.at_, partV, indexAddrV, fieldAddrV, sliceV, sliceV.rowSl, sliceV.strSl, bounds, cutP,
    builtinV, lenV, maxL, maxV, appendV, St.elems, roomy, rowOf, rowS, isStr, esz, tdOf, convV, buildV, fillV, partsV, okParts, fillL, D.whole, D.demoteC, D.demote, demoteL, D.global, D.leaf, D.cells, TI.agg, TD.rowish, callOpV, St.borrowL, St.borrow, D.isLsl, adoptR, adoptC, adoptCL, adoptL, adopt, upd,
    List.toArray, Array.toList, List.length_cons, List.length_nil, List.length_map, List.length_append, List.length_replicate, ← List.map_take, ← List.map_drop, List.drop_zero, Nat.zero_le, Nat.le_refl, Nat.sub_zero, List.getElem?_cons_succ, List.getElem?_cons_zero, List.getElem?_nil, List.any_cons, List.any_nil, List.all_cons, List.all_nil, List.append_nil, List.nil_append, List.cons_append, List.set_cons_zero, List.set_cons_succ,
    cond_true, cond_false, decide_true, decide_false, Bool.true_and, Bool.and_true, Bool.false_and, Bool.and_false, Bool.true_or, Bool.or_true, Bool.false_or, Bool.or_false, Bool.not_true, Bool.not_false, Bool.and_self, Bool.or_self, bT, bF, ieq, ine, decide_eq_true_eq, decide_not,
    Nat.reduceEqDiff, Nat.reduceAdd, Nat.reduceSub, Nat.reduceMul, Nat.reduceLeDiff, Nat.reduceLT, Nat.zero_add, Nat.add_zero, Option.getD_some, Option.getD_none, Option.isSome_some, Option.isSome_none, reduceIte, reduceCtorEq, and_self, and_true, true_and, not_true_eq_false, not_false_eq_true, false_imp_iff, forall_const, imp_self,
    Int.reduceNeg, Int.reduceLT, Int.reduceLE, Int.reduceAdd, Int.reduceSub, Int.reduceMul, Int.reduceToNat, Int.reduceEq, ne_eq, eq_self, beq_self_eq_true])
      all_goals (exfalso; first | omega | (simp at hc; done) | (simp_all; done) | (simp_all; omega))
  · simp only [hf, if_false] at hsp
    by_cases hn : n < 0 ∨ 1073741824 < n
    · simp only [mostS, hn, if_true] at hm
      simp only [fi3, Tryd.f3, an3, hsp, hrf, hm, hen, hfi, hs, hk.numN, hk.numE, T3, T4, T22, T25, e_seq, e_region, e_block, e_cond, e_ret, e_skip, e_exit, e_plain, e_guard, e_nil, e_op, e_ifT, e_ifF, e_true, e_false, e_loop, e_l, e_top, e_seqN, e_seqE, e_seqR, e_blockN, e_blockR, e_blockE,
    e_finN, e_finX, e_finR, retV, resV, resL, outCL, outC, outL, outD, wantedV, opV, An.at_, prune, List.map_cons, List.map_nil, envOf, get, put, eval, ofV, nbeq, nble, binV, binV.aggV, unV, intV, eqOp, isConst, natV, optV, loadV, loadC, storeV, setC, St.at_, partV, indexAddrV, fieldAddrV, sliceV, sliceV.rowSl, sliceV.strSl, bounds, cutP,
    builtinV, lenV, maxL, maxV, appendV, St.elems, roomy, rowOf, rowS, isStr, esz, tdOf, convV, buildV, fillV, partsV, okParts, fillL, D.whole, D.demoteC, D.demote, demoteL, D.global, D.leaf, D.cells, TI.agg, TD.rowish, callOpV, St.borrowL, St.borrow, D.isLsl, adoptR, adoptC, adoptCL, adoptL, adopt, upd,
    List.toArray, Array.toList, List.length_cons, List.length_nil, List.length_map, List.length_append, List.length_replicate, ← List.map_take, ← List.map_drop, List.drop_zero, Nat.zero_le, Nat.le_refl, Nat.sub_zero, List.getElem?_cons_succ, List.getElem?_cons_zero, List.getElem?_nil, List.any_cons, List.any_nil, List.all_cons, List.all_nil, List.append_nil, List.nil_append, List.cons_append, List.set_cons_zero, List.set_cons_succ,
    cond_true, cond_false, decide_true, decide_false, Bool.true_and, Bool.and_true, Bool.false_and, Bool.and_false, Bool.true_or, Bool.or_true, Bool.false_or, Bool.or_false, Bool.not_true, Bool.not_false, Bool.and_self, Bool.or_self, bT, bF, ieq, ine, decide_eq_true_eq, decide_not,
    Nat.reduceEqDiff, Nat.reduceAdd, Nat.reduceSub, Nat.reduceMul, Nat.reduceLeDiff, Nat.reduceLT, Nat.zero_add, Nat.add_zero, Option.getD_some, Option.getD_none, Option.isSome_some, Option.isSome_none, reduceIte, reduceCtorEq, and_self, and_true, true_and, not_true_eq_false, not_false_eq_true, false_imp_iff, forall_const, imp_self,
    Int.reduceNeg, Int.reduceLT, Int.reduceLE, Int.reduceAdd, Int.reduceSub, Int.reduceMul, Int.reduceToNat, Int.reduceEq, ne_eq, eq_self, beq_self_eq_true]
      repeat' ((first | rw [e_if] | rw [e_bool]); split <;> rename_i hc <;> (try simp only [bT, bF, Bool.not_eq_true', decide_eq_true_eq, decide_eq_false_iff_not, Bool.not_eq_true, Bool.not_eq_false, Decidable.not_not] at hc) <;> simp only [hc, hsp, hrf, hm, hen, hfi, hs, hk.numN, hk.numE, T3, T4, T22, T25, e_seq, e_region, e_block, e_cond, e_ret, e_skip, e_exit, e_plain, e_guard, e_nil, e_op, e_ifT, e_ifF, e_true, e_false, e_loop, e_l, e_top, e_seqN, e_seqE, e_seqR, e_blockN, e_blockR, e_blockE,
    e_finN, e_finX, e_finR, retV, resV, resL, outCL, outC, outL, outD, wantedV, opV, An.at_, prune, List.map_cons, List.map_nil, envOf, get, put, eval, ofV, nbeq, nble, binV, binV.aggV, unV, intV, eqOp, isConst, natV, optV, loadV, loadC, storeV, setC, St.at_, partV, indexAddrV, fieldAddrV, sliceV, sliceV.rowSl, sliceV.strSl, bounds, cutP,
    builtinV, lenV, maxL, maxV, appendV, St.elems, roomy, rowOf, rowS, isStr, esz, tdOf, convV, buildV, fillV, partsV, okParts, fillL, D.whole, D.demoteC, D.demote, demoteL, D.global, D.leaf, D.cells, TI.agg, TD.rowish, callOpV, St.borrowL, St.borrow, D.isLsl, adoptR, adoptC, adoptCL, adoptL, adopt, upd,
    List.toArray, Array.toList, List.length_cons, List.length_nil, List.length_map, List.length_append, List.length_replicate, ← List.map_take, ← List.map_drop, List.drop_zero, Nat.zero_le, Nat.le_refl, Nat.sub_zero, List.getElem?_cons_succ, List.getElem?_cons_zero, List.getElem?_nil, List.any_cons, List.any_nil, List.all_cons, List.all_nil, List.append_nil, List.nil_append, List.cons_append, List.set_cons_zero, List.set_cons_succ,
    cond_true, cond_false, decide_true, decide_false, Bool.true_and, Bool.and_true, Bool.false_and, Bool.and_false, Bool.true_or, Bool.or_true, Bool.false_or, Bool.or_false, Bool.not_true, Bool.not_false, Bool.and_self, Bool.or_self, bT, bF, ieq, ine, decide_eq_true_eq, decide_not,
    Nat.reduceEqDiff, Nat.reduceAdd, Nat.reduceSub, Nat.reduceMul, Nat.reduceLeDiff, Nat.reduceLT, Nat.zero_add, Nat.add_zero, Option.getD_some, Option.getD_none, Option.isSome_some, Option.isSome_none, reduceIte, reduceCtorEq, and_self, and_true, true_and, not_true_eq_false, not_false_eq_true, false_imp_iff, forall_const, imp_self,
    Int.reduceNeg, Int.reduceLT, Int.reduceLE, Int.reduceAdd, Int.reduceSub, Int.reduceMul, Int.reduceToNat, Int.reduceEq, ne_eq, eq_self, beq_self_eq_true])
      all_goals (exfalso; first | omega | (simp at hc; done) | (simp_all; done) | (simp_all; omega))
    · simp only [mostS, hn, if_false] at hm
      have h1 := Int.tdiv_eq_ediv_of_nonneg (a := n) (b := 126) (by omega)
      have h2 := wrapI (x := n / 126) (by omega) (by omega)
      have h3 := wrapI (x := 1 + n / 126) (by omega) (by omega)
      simp only [fi3, Tryd.f3, an3, hsp, hrf, hm, hen, hfi, hs, hk.numN, hk.numE, h1, h2, h3, T3, T4, T22, T25, e_seq, e_region, e_block, e_cond, e_ret, e_skip, e_exit, e_plain, e_guard, e_nil, e_op, e_ifT, e_ifF, e_true, e_false, e_loop, e_l, e_top, e_seqN, e_seqE, e_seqR, e_blockN, e_blockR, e_blockE,
    e_finN, e_finX, e_finR, retV, resV, resL, outCL, outC, outL, outD, wantedV, opV, An.at_, prune, List.map_cons, List.map_nil, envOf, get, put, eval, ofV, nbeq, nble, binV, binV.aggV, unV, intV, eqOp, isConst, natV, optV, loadV, loadC, storeV, setC, St.at_, partV, indexAddrV, fieldAddrV, sliceV, sliceV.rowSl, sliceV.strSl, bounds, cutP,
    builtinV, lenV, maxL, maxV, appendV, St.elems, roomy, rowOf, rowS, isStr, esz, tdOf, convV, buildV, fillV, partsV, okParts, fillL, D.whole, D.demoteC, D.demote, demoteL, D.global, D.leaf, D.cells, TI.agg, TD.rowish, callOpV, St.borrowL, St.borrow, D.isLsl, adoptR, adoptC, adoptCL, adoptL, adopt, upd,
    List.toArray, Array.toList, List.length_cons, List.length_nil, List.length_map, List.length_append, List.length_replicate, ← List.map_take, ← List.map_drop, List.drop_zero, Nat.zero_le, Nat.le_refl, Nat.sub_zero, List.getElem?_cons_succ, List.getElem?_cons_zero, List.getElem?_nil, List.any_cons, List.any_nil, List.all_cons, List.all_nil, List.append_nil, List.nil_append, List.cons_append, List.set_cons_zero, List.set_cons_succ,
    cond_true, cond_false, decide_true, decide_false, Bool.true_and, Bool.and_true, Bool.false_and, Bool.and_false, Bool.true_or, Bool.or_true, Bool.false_or, Bool.or_false, Bool.not_true, Bool.not_false, Bool.and_self, Bool.or_self, bT, bF, ieq, ine, decide_eq_true_eq, decide_not,
    Nat.reduceEqDiff, Nat.reduceAdd, Nat.reduceSub, Nat.reduceMul, Nat.reduceLeDiff, Nat.reduceLT, Nat.zero_add, Nat.add_zero, Option.getD_some, Option.getD_none, Option.isSome_some, Option.isSome_none, reduceIte, reduceCtorEq, and_self, and_true, true_and, not_true_eq_false, not_false_eq_true, false_imp_iff, forall_const, imp_self,
    Int.reduceNeg, Int.reduceLT, Int.reduceLE, Int.reduceAdd, Int.reduceSub, Int.reduceMul, Int.reduceToNat, Int.reduceEq, ne_eq, eq_self, beq_self_eq_true]
      repeat' ((first | rw [e_if] | rw [e_bool]); split <;> rename_i hc <;> (try simp only [bT, bF, Bool.not_eq_true', decide_eq_true_eq, decide_eq_false_iff_not, Bool.not_eq_true, Bool.not_eq_false, Decidable.not_not] at hc) <;> simp only [hc, hsp, hrf, hm, hen, hfi, hs, hk.numN, hk.numE, h1, h2, h3, T3, T4, T22, T25, e_seq, e_region, e_block, e_cond, e_ret, e_skip, e_exit, e_plain, e_guard, e_nil, e_op, e_ifT, e_ifF, e_true, e_false, e_loop, e_l, e_top, e_seqN, e_seqE, e_seqR, e_blockN, e_blockR, e_blockE,
    e_finN, e_finX, e_finR, retV, resV, resL, outCL, outC, outL, outD, wantedV, opV, An.at_, prune, List.map_cons, List.map_nil, envOf, get, put, eval, ofV, nbeq, nble, binV, binV.aggV, unV, intV, eqOp, isConst, natV, optV, loadV, loadC, storeV, setC, St.at_, partV, indexAddrV, fieldAddrV, sliceV, sliceV.rowSl, sliceV.strSl, bounds, cutP,
    builtinV, lenV, maxL, maxV, appendV, St.elems, roomy, rowOf, rowS, isStr, esz, tdOf, convV, buildV, fillV, partsV, okParts, fillL, D.whole, D.demoteC, D.demote, demoteL, D.global, D.leaf, D.cells, TI.agg, TD.rowish, callOpV, St.borrowL, St.borrow, D.isLsl, adoptR, adoptC, adoptCL, adoptL, adopt, upd,
    List.toArray, Array.toList, List.length_cons, List.length_nil, List.length_map, List.length_append, List.length_replicate, ← List.map_take, ← List.map_drop, List.drop_zero, Nat.zero_le, Nat.le_refl, Nat.sub_zero, List.getElem?_cons_succ, List.getElem?_cons_zero, List.getElem?_nil, List.any_cons, List.any_nil, List.all_cons, List.all_nil, List.append_nil, List.nil_append, List.cons_append, List.set_cons_zero, List.set_cons_succ,
    cond_true, cond_false, decide_true, decide_false, Bool.true_and, Bool.and_true, Bool.false_and, Bool.and_false, Bool.true_or, Bool.or_true, Bool.false_or, Bool.or_false, Bool.not_true, Bool.not_false, Bool.and_self, Bool.or_self, bT, bF, ieq, ine, decide_eq_true_eq, decide_not,
    Nat.reduceEqDiff, Nat.reduceAdd, Nat.reduceSub, Nat.reduceMul, Nat.reduceLeDiff, Nat.reduceLT, Nat.zero_add, Nat.add_zero, Option.getD_some, Option.getD_none, Option.isSome_some, Option.isSome_none, reduceIte, reduceCtorEq, and_self, and_true, true_and, not_true_eq_false, not_false_eq_true, false_imp_iff, forall_const, imp_self,
    Int.reduceNeg, Int.reduceLT, Int.reduceLE, Int.reduceAdd, Int.reduceSub, Int.reduceMul, Int.reduceToNat, Int.reduceEq, ne_eq, eq_self, beq_self_eq_true])
      all_goals (exfalso; first | omega | (simp at hc; done) | (simp_all; done) | (simp_all; omega))

theorem run3_sl (C : Callees) (hk : Known11 C) (hs : ∀ B, C 14 [] B = some (.bool true, B)) (l : List Int) (d : D) (hd : Sl d l) (bes n : Int) (B : Hp) :
    runV T C fi3 [d, .int .i64 bes, .int .i64 n] B = some (.bool true, B) := by
  rcases hd with ⟨rfl, rfl⟩ | ⟨p, rfl⟩
  · exact run3_nil C hk hs bes n B
  · exact run3 C hk hs l p bes n B

end Go.Proofs.YtdmlojinmkcldaaDoor.V
