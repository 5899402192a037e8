/-
Layer 10: ChainForms, ChainBack.
-/
import Derived.Test.YtploddijjofphaaDoorCB
namespace Go.Proofs.YtploddijjofphaaDoor.V
open Go Go.RowKit
set_option linter.unusedSimpArgs false
set_option linter.unusedVariables false

/-! warren/warrenlaw10.ChainForms -/
def an7 : An := ⟨fun | 7 => some [0, 1, 2, 7, 8, 9] | _ => .none, fun _ => 0, fun _ => false, fun _ => .none⟩
noncomputable def fi7 : FI := ⟨3, 124, Tryd.f7.body.getD .skip, Tryd.f7.results.toList, an7, false, false⟩
theorem ok7 : FnOk Tryd.prog 7 fi7 := ⟨⟨Tryd.f7, Tryd.func7, by kernel_rfl, rfl, rfl, rfl⟩, by decide, by kernel_rfl, fun h => by cases h⟩
noncomputable def lp7_0 : Code := subC [1, 1, 1, 1, 0, 1, 0, 0] (Tryd.f7.body.getD .skip)   -- head 7 keep [0, 1, 2, 7, 8, 9]
/-! warren/warrenlaw10.ChainBack -/
def an8 : An := ⟨fun | 6 => some [0, 3, 4, 5] | _ => .none, fun _ => 0, fun _ => false, fun _ => .none⟩
noncomputable def fi8 : FI := ⟨1, 102, Tryd.f8.body.getD .skip, Tryd.f8.results.toList, an8, false, false⟩
theorem ok8 : FnOk Tryd.prog 8 fi8 := ⟨⟨Tryd.f8, Tryd.func8, by kernel_rfl, rfl, rfl, rfl⟩, by decide, by kernel_rfl, fun h => by cases h⟩
noncomputable def lp8_0 : Code := subC [1, 1, 1, 1, 0, 1, 0, 0] (Tryd.f8.body.getD .skip)   -- head 6 keep [0, 3, 4, 5]
variable {C : Callees}

theorem str_same (a : List UInt8) : strV .neq a a = some (.bool false) := by simp [strV]

def st7 (B : Hp) (v : List UInt8) (n : Int) (b : List UInt8) (i : Nat) : St :=
  ⟨[(0, .str v), (1, .int .i64 n), (2, .vec 1 (b.map byteD) .none), (7, .vec 1 ((pcs v).map .str) (.own 0)), (8, .vec 1 ((pcs v).map .str) (.own 1)), (9, .int .i64 i)], [], [true, true], B⟩

set_option maxRecDepth 10000 in
theorem loop7 (C : Callees) (B : Hp) (v : List UInt8) (n : Int) (b : List UInt8) (hv : v.length ≤ 5000) (st : St) (hst : an7.at_ (some 7) st = st7 B v n b 0) :
    ∃ x st', loopC T an7 C lp7_0 st = some (x, st') ∧ ∃ ρ, x = .exit 0 ∧ st' = ⟨ρ, [], [true, true], B⟩ ∧ get ρ 0 = .str v ∧ get ρ 1 = .int .i64 n ∧ get ρ 2 = .vec 1 (b.map byteD) .none := by
  have hl := pcs_length v
  have hc : cnt v.length ≤ 10 := by unfold cnt; omega
  refine loop_rule (st7 B v n b) (fun i => i ≤ cnt v.length) (fun i => cnt v.length - i)
    (fun x st' => ∃ ρ, x = .exit 0 ∧ st' = ⟨ρ, [], [true, true], B⟩ ∧ get ρ 0 = .str v ∧ get ρ 1 = .int .i64 n ∧ get ρ 2 = .vec 1 (b.map byteD) .none) ?_ 0 st hst (Nat.zero_le _)
  intro i hi
  rcases Nat.lt_or_ge i (cnt v.length) with h | h
  · left
    have g0 : (i : Int) < ((pcs v).length : Int) := by omega
    have g1 : (0 : Int) ≤ i := by omega
    have g2 := pcs_get h
    have g3 : IntKind.i64.wrap ((i : Int) + 1) = ((i + 1 : Nat) : Int) := by rw [wrapI (by omega) (by omega)]; rfl
    refine ⟨i + 1, ?_, by omega, by omega⟩
    simp only [st7, lp7_0, subC, atC, Tryd.f7, an7, g0, g1, g2, g3, List.getElem?_map, Int.toNat_natCast, Option.map_some, str_same, T3, T5, T9, T64, T65, e_seq, e_region, e_dyn, e_dynS, stepD, accs, accP, accW, simpleOp, isAl, isExt, flipD, D.fresh1, D.row, D.plain, D.plain.plainL, St.close, St.close1, St.borrow, List.flatten_cons, List.flatten_nil, e_block, e_cond, e_ret, e_skip, e_exit, e_plain, e_guard, e_nil, e_op, e_ifT, e_ifF, e_true, e_false, e_loop, e_l, e_top, e_seqN, e_seqE, e_seqR, e_blockN, e_blockR, e_blockE,
    begin_f, begin_t, end_f, e_finN, e_finX, e_finR, retV, resV, resL, outCL, outC, outL, outD, wantedV, opV, An.mid, thawV, D.plainU, prune, List.map_cons, List.map_nil, envOf, get, put, eval, evalT, nz, argsV, capsV, ofV, nbeq, nble, binV, binV.aggV, unV, intV, eqOp, isConst, natV, optV, loadV, loadC, storeV, setC, St.at_, partV, partTy, indexAddrV, fieldAddrV, sliceV, sliceV.rowSl, sliceV.strSl, bounds, cutP,
    builtinV, lenV, maxL, maxV, appendV, St.elems, roomy, rowOf, rowS, isStr, esz, tdOf, convV, buildV, fillV, partsV, okParts, fillL, D.whole, D.demoteC, D.demote, demoteL, D.global, D.flat, D.leaf, D.cells, TI.agg, TD.rowish, callOpV, moveL, CC, keepB, St.borrowL, St.borrow, D.isLsl, adoptR, adoptC, adoptCL, adoptL, adopt,
    List.toArray, Array.toList, List.length_cons, List.length_nil, List.length_map, List.length_append, List.length_replicate, List.replicate_succ, List.replicate_zero, List.replicate_one, ← List.map_take, ← List.map_drop, List.isEmpty_cons, List.isEmpty_nil, List.drop_zero, List.take_succ_cons, List.take_zero, List.take_nil, List.drop_succ_cons, List.drop_nil, Nat.zero_le, Nat.le_refl, Nat.sub_zero, List.getElem?_cons_succ, List.getElem?_cons_zero, List.getElem?_nil, List.any_cons, List.any_nil, List.all_cons, List.all_nil, List.append_nil, List.nil_append, List.cons_append, List.set_cons_zero, List.set_cons_succ,
    cond_true, cond_false, decide_true, decide_false, Bool.true_and, Bool.and_true, Bool.false_and, Bool.and_false, Bool.true_or, Bool.or_true, Bool.false_or, Bool.or_false, Bool.not_true, Bool.not_false, Bool.and_self, Bool.or_self, bT, bF, ieq, ine, decide_eq_true_eq, decide_not,
    Nat.reduceEqDiff, Nat.reduceAdd, Nat.reduceSub, Nat.reduceMul, Nat.reduceLeDiff, Nat.reduceLT, Nat.zero_add, Nat.add_zero, Option.getD_some, Option.getD_none, Option.isSome_some, Option.isSome_none, reduceIte, reduceCtorEq, and_self, and_true, true_and, not_true_eq_false, not_false_eq_true, false_imp_iff, forall_const, imp_self,
    Int.reduceNeg, Int.reduceLT, Int.reduceLE, Int.reduceGT, Int.reduceGE, Int.reduceAdd, Int.reduceSub, Int.reduceMul, Int.reduceToNat, Int.reduceEq, ne_eq, eq_self, beq_self_eq_true]
    exact ⟨_, rfl, rfl⟩
  · right
    have g0 : ¬ (i : Int) < ((pcs v).length : Int) := by omega
    simp only [st7, lp7_0, subC, atC, Tryd.f7, an7, g0, T3, T5, T9, T64, T65, e_seq, e_region, e_dyn, e_dynS, stepD, accs, accP, accW, simpleOp, isAl, isExt, flipD, D.fresh1, D.row, D.plain, D.plain.plainL, St.close, St.close1, St.borrow, List.flatten_cons, List.flatten_nil, e_block, e_cond, e_ret, e_skip, e_exit, e_plain, e_guard, e_nil, e_op, e_ifT, e_ifF, e_true, e_false, e_loop, e_l, e_top, e_seqN, e_seqE, e_seqR, e_blockN, e_blockR, e_blockE,
    begin_f, begin_t, end_f, e_finN, e_finX, e_finR, retV, resV, resL, outCL, outC, outL, outD, wantedV, opV, An.mid, thawV, D.plainU, prune, List.map_cons, List.map_nil, envOf, get, put, eval, evalT, nz, argsV, capsV, ofV, nbeq, nble, binV, binV.aggV, unV, intV, eqOp, isConst, natV, optV, loadV, loadC, storeV, setC, St.at_, partV, partTy, indexAddrV, fieldAddrV, sliceV, sliceV.rowSl, sliceV.strSl, bounds, cutP,
    builtinV, lenV, maxL, maxV, appendV, St.elems, roomy, rowOf, rowS, isStr, esz, tdOf, convV, buildV, fillV, partsV, okParts, fillL, D.whole, D.demoteC, D.demote, demoteL, D.global, D.flat, D.leaf, D.cells, TI.agg, TD.rowish, callOpV, moveL, CC, keepB, St.borrowL, St.borrow, D.isLsl, adoptR, adoptC, adoptCL, adoptL, adopt,
    List.toArray, Array.toList, List.length_cons, List.length_nil, List.length_map, List.length_append, List.length_replicate, List.replicate_succ, List.replicate_zero, List.replicate_one, ← List.map_take, ← List.map_drop, List.isEmpty_cons, List.isEmpty_nil, List.drop_zero, List.take_succ_cons, List.take_zero, List.take_nil, List.drop_succ_cons, List.drop_nil, Nat.zero_le, Nat.le_refl, Nat.sub_zero, List.getElem?_cons_succ, List.getElem?_cons_zero, List.getElem?_nil, List.any_cons, List.any_nil, List.all_cons, List.all_nil, List.append_nil, List.nil_append, List.cons_append, List.set_cons_zero, List.set_cons_succ,
    cond_true, cond_false, decide_true, decide_false, Bool.true_and, Bool.and_true, Bool.false_and, Bool.and_false, Bool.true_or, Bool.or_true, Bool.false_or, Bool.or_false, Bool.not_true, Bool.not_false, Bool.and_self, Bool.or_self, bT, bF, ieq, ine, decide_eq_true_eq, decide_not,
    Nat.reduceEqDiff, Nat.reduceAdd, Nat.reduceSub, Nat.reduceMul, Nat.reduceLeDiff, Nat.reduceLT, Nat.zero_add, Nat.add_zero, Option.getD_some, Option.getD_none, Option.isSome_some, Option.isSome_none, reduceIte, reduceCtorEq, and_self, and_true, true_and, not_true_eq_false, not_false_eq_true, false_imp_iff, forall_const, imp_self,
    Int.reduceNeg, Int.reduceLT, Int.reduceLE, Int.reduceGT, Int.reduceGE, Int.reduceAdd, Int.reduceSub, Int.reduceMul, Int.reduceToNat, Int.reduceEq, ne_eq, eq_self, beq_self_eq_true]
    exact ⟨_, _, rfl, by simp, _, rfl, rfl, rfl, rfl, rfl⟩

set_option maxRecDepth 10000 in
set_option maxHeartbeats 4000000 in
theorem run7 (hC : Known10 C) (v : List UInt8) (n : Int) (b : List UInt8) (h0 : -9223372036854775808 ≤ n) (h1 : n < 9223372036854775808) (B : Hp) : runV T C fi7 [.str v, .int .i64 n, .vec 1 (b.map byteD) .none] B = some (.bool true, B) := by
  rw [e_run _ _ _ rfl]
  have hL := hC.toLib10
  have e4 := c42 hC
  by_cases k1 : (v.length : Int) > 5000
  · simp only [fi7, Tryd.f7, an7, k1, e4, T3, T5, T9, T64, T65, e_seq, e_region, e_dyn, e_dynS, stepD, accs, accP, accW, simpleOp, isAl, isExt, flipD, D.fresh1, D.row, D.plain, D.plain.plainL, St.close, St.close1, St.borrow, List.flatten_cons, List.flatten_nil, e_block, e_cond, e_ret, e_skip, e_exit, e_plain, e_guard, e_nil, e_op, e_ifT, e_ifF, e_true, e_false, e_loop, e_l, e_top, e_seqN, e_seqE, e_seqR, e_blockN, e_blockR, e_blockE,
    begin_f, begin_t, end_f, e_finN, e_finX, e_finR, retV, resV, resL, outCL, outC, outL, outD, wantedV, opV, An.mid, thawV, D.plainU, prune, List.map_cons, List.map_nil, envOf, get, put, eval, evalT, nz, argsV, capsV, ofV, nbeq, nble, binV, binV.aggV, unV, intV, eqOp, isConst, natV, optV, loadV, loadC, storeV, setC, St.at_, partV, partTy, indexAddrV, fieldAddrV, sliceV, sliceV.rowSl, sliceV.strSl, bounds, cutP,
    builtinV, lenV, maxL, maxV, appendV, St.elems, roomy, rowOf, rowS, isStr, esz, tdOf, convV, buildV, fillV, partsV, okParts, fillL, D.whole, D.demoteC, D.demote, demoteL, D.global, D.flat, D.leaf, D.cells, TI.agg, TD.rowish, callOpV, moveL, CC, keepB, St.borrowL, St.borrow, D.isLsl, adoptR, adoptC, adoptCL, adoptL, adopt,
    List.toArray, Array.toList, List.length_cons, List.length_nil, List.length_map, List.length_append, List.length_replicate, List.replicate_succ, List.replicate_zero, List.replicate_one, ← List.map_take, ← List.map_drop, List.isEmpty_cons, List.isEmpty_nil, List.drop_zero, List.take_succ_cons, List.take_zero, List.take_nil, List.drop_succ_cons, List.drop_nil, Nat.zero_le, Nat.le_refl, Nat.sub_zero, List.getElem?_cons_succ, List.getElem?_cons_zero, List.getElem?_nil, List.any_cons, List.any_nil, List.all_cons, List.all_nil, List.append_nil, List.nil_append, List.cons_append, List.set_cons_zero, List.set_cons_succ,
    cond_true, cond_false, decide_true, decide_false, Bool.true_and, Bool.and_true, Bool.false_and, Bool.and_false, Bool.true_or, Bool.or_true, Bool.false_or, Bool.or_false, Bool.not_true, Bool.not_false, Bool.and_self, Bool.or_self, bT, bF, ieq, ine, decide_eq_true_eq, decide_not,
    Nat.reduceEqDiff, Nat.reduceAdd, Nat.reduceSub, Nat.reduceMul, Nat.reduceLeDiff, Nat.reduceLT, Nat.zero_add, Nat.add_zero, Option.getD_some, Option.getD_none, Option.isSome_some, Option.isSome_none, reduceIte, reduceCtorEq, and_self, and_true, true_and, not_true_eq_false, not_false_eq_true, false_imp_iff, forall_const, imp_self,
    Int.reduceNeg, Int.reduceLT, Int.reduceLE, Int.reduceGT, Int.reduceGE, Int.reduceAdd, Int.reduceSub, Int.reduceMul, Int.reduceToNat, Int.reduceEq, ne_eq, eq_self, beq_self_eq_true]
  by_cases k2 : (b.length : Int) > 900
  · simp only [fi7, Tryd.f7, an7, k1, k2, e4, T3, T5, T9, T64, T65, e_seq, e_region, e_dyn, e_dynS, stepD, accs, accP, accW, simpleOp, isAl, isExt, flipD, D.fresh1, D.row, D.plain, D.plain.plainL, St.close, St.close1, St.borrow, List.flatten_cons, List.flatten_nil, e_block, e_cond, e_ret, e_skip, e_exit, e_plain, e_guard, e_nil, e_op, e_ifT, e_ifF, e_true, e_false, e_loop, e_l, e_top, e_seqN, e_seqE, e_seqR, e_blockN, e_blockR, e_blockE,
    begin_f, begin_t, end_f, e_finN, e_finX, e_finR, retV, resV, resL, outCL, outC, outL, outD, wantedV, opV, An.mid, thawV, D.plainU, prune, List.map_cons, List.map_nil, envOf, get, put, eval, evalT, nz, argsV, capsV, ofV, nbeq, nble, binV, binV.aggV, unV, intV, eqOp, isConst, natV, optV, loadV, loadC, storeV, setC, St.at_, partV, partTy, indexAddrV, fieldAddrV, sliceV, sliceV.rowSl, sliceV.strSl, bounds, cutP,
    builtinV, lenV, maxL, maxV, appendV, St.elems, roomy, rowOf, rowS, isStr, esz, tdOf, convV, buildV, fillV, partsV, okParts, fillL, D.whole, D.demoteC, D.demote, demoteL, D.global, D.flat, D.leaf, D.cells, TI.agg, TD.rowish, callOpV, moveL, CC, keepB, St.borrowL, St.borrow, D.isLsl, adoptR, adoptC, adoptCL, adoptL, adopt,
    List.toArray, Array.toList, List.length_cons, List.length_nil, List.length_map, List.length_append, List.length_replicate, List.replicate_succ, List.replicate_zero, List.replicate_one, ← List.map_take, ← List.map_drop, List.isEmpty_cons, List.isEmpty_nil, List.drop_zero, List.take_succ_cons, List.take_zero, List.take_nil, List.drop_succ_cons, List.drop_nil, Nat.zero_le, Nat.le_refl, Nat.sub_zero, List.getElem?_cons_succ, List.getElem?_cons_zero, List.getElem?_nil, List.any_cons, List.any_nil, List.all_cons, List.all_nil, List.append_nil, List.nil_append, List.cons_append, List.set_cons_zero, List.set_cons_succ,
    cond_true, cond_false, decide_true, decide_false, Bool.true_and, Bool.and_true, Bool.false_and, Bool.and_false, Bool.true_or, Bool.or_true, Bool.false_or, Bool.or_false, Bool.not_true, Bool.not_false, Bool.and_self, Bool.or_self, bT, bF, ieq, ine, decide_eq_true_eq, decide_not,
    Nat.reduceEqDiff, Nat.reduceAdd, Nat.reduceSub, Nat.reduceMul, Nat.reduceLeDiff, Nat.reduceLT, Nat.zero_add, Nat.add_zero, Option.getD_some, Option.getD_none, Option.isSome_some, Option.isSome_none, reduceIte, reduceCtorEq, and_self, and_true, true_and, not_true_eq_false, not_false_eq_true, false_imp_iff, forall_const, imp_self,
    Int.reduceNeg, Int.reduceLT, Int.reduceLE, Int.reduceGT, Int.reduceGE, Int.reduceAdd, Int.reduceSub, Int.reduceMul, Int.reduceToNat, Int.reduceEq, ne_eq, eq_self, beq_self_eq_true]
  have g1 := fun B => hL.pieces v B (by omega)
  have g2 := c44 hL v (by omega)
  have g3 : ∀ B, C 45 [.int .i64 (v.length : Int)] B = some (.int .i64 ((pcs v).length : Int), B) := fun B => by
    rw [c45 hL _ (by omega) (by omega), cntI_nat, pcs_length]
  simp only [fi7, Tryd.f7, an7, k1, k2, e4, g1, g2, g3, T3, T5, T9, T64, T65, e_seq, e_region, e_dyn, e_dynS, stepD, accs, accP, accW, simpleOp, isAl, isExt, flipD, D.fresh1, D.row, D.plain, D.plain.plainL, St.close, St.close1, St.borrow, List.flatten_cons, List.flatten_nil, e_block, e_cond, e_ret, e_skip, e_exit, e_plain, e_guard, e_nil, e_op, e_ifT, e_ifF, e_true, e_false, e_loop, e_l, e_top, e_seqN, e_seqE, e_seqR, e_blockN, e_blockR, e_blockE,
    begin_f, begin_t, end_f, e_finN, e_finX, e_finR, retV, resV, resL, outCL, outC, outL, outD, wantedV, opV, An.mid, thawV, D.plainU, prune, List.map_cons, List.map_nil, envOf, get, put, eval, evalT, nz, argsV, capsV, ofV, nbeq, nble, binV, binV.aggV, unV, intV, eqOp, isConst, natV, optV, loadV, loadC, storeV, setC, St.at_, partV, partTy, indexAddrV, fieldAddrV, sliceV, sliceV.rowSl, sliceV.strSl, bounds, cutP,
    builtinV, lenV, maxL, maxV, appendV, St.elems, roomy, rowOf, rowS, isStr, esz, tdOf, convV, buildV, fillV, partsV, okParts, fillL, D.whole, D.demoteC, D.demote, demoteL, D.global, D.flat, D.leaf, D.cells, TI.agg, TD.rowish, callOpV, moveL, CC, keepB, St.borrowL, St.borrow, D.isLsl, adoptR, adoptC, adoptCL, adoptL, adopt,
    List.toArray, Array.toList, List.length_cons, List.length_nil, List.length_map, List.length_append, List.length_replicate, List.replicate_succ, List.replicate_zero, List.replicate_one, ← List.map_take, ← List.map_drop, List.isEmpty_cons, List.isEmpty_nil, List.drop_zero, List.take_succ_cons, List.take_zero, List.take_nil, List.drop_succ_cons, List.drop_nil, Nat.zero_le, Nat.le_refl, Nat.sub_zero, List.getElem?_cons_succ, List.getElem?_cons_zero, List.getElem?_nil, List.any_cons, List.any_nil, List.all_cons, List.all_nil, List.append_nil, List.nil_append, List.cons_append, List.set_cons_zero, List.set_cons_succ,
    cond_true, cond_false, decide_true, decide_false, Bool.true_and, Bool.and_true, Bool.false_and, Bool.and_false, Bool.true_or, Bool.or_true, Bool.false_or, Bool.or_false, Bool.not_true, Bool.not_false, Bool.and_self, Bool.or_self, bT, bF, ieq, ine, decide_eq_true_eq, decide_not,
    Nat.reduceEqDiff, Nat.reduceAdd, Nat.reduceSub, Nat.reduceMul, Nat.reduceLeDiff, Nat.reduceLT, Nat.zero_add, Nat.add_zero, Option.getD_some, Option.getD_none, Option.isSome_some, Option.isSome_none, reduceIte, reduceCtorEq, and_self, and_true, true_and, not_true_eq_false, not_false_eq_true, false_imp_iff, forall_const, imp_self,
    Int.reduceNeg, Int.reduceLT, Int.reduceLE, Int.reduceGT, Int.reduceGE, Int.reduceAdd, Int.reduceSub, Int.reduceMul, Int.reduceToNat, Int.reduceEq, ne_eq, eq_self, beq_self_eq_true]
  refine' in_loop (c' := lp7_0) (fin T _ _ _) ?h rfl ?q
  case h => exact loop7 C B v n b (by omega) _ rfl
  rintro x st' ⟨ρ, rfl, rfl, hg0, hg1, hg2⟩
  have f1 := c46 hL n v
  have f2 := c47 hL n v
  have f3 := c48 hL b
  have f4 := c49 hL b
  have f5 := hC.num
  have b1 := bytesOf_map (encS n v).1
  have f6 := c45 hL n h0 h1
  have s1 := fun a => (str_eq a a).trans (by rw [decide_eq_true rfl])
  by_cases k3 : n > 0
  · simp only [hg0, hg1, hg2, f1, f2, f3, f4, f5, b1, s1, k3, e4, errD_dem, errD_demC, errD_bor, errD_out, errD_outC, errD_ado, errD_adoC, errD_adoR, errD_plain, errD_close, errD_lsl, errD_fresh, implies_true, false_implies, D.vec.injEq, adopt.eq_1, adopt.eq_2, adoptC.eq_1, adoptC.eq_2, adoptR.eq_1, adoptR.eq_2, outD.eq_1, outD.eq_2, outD.eq_3, outC.eq_1, outC.eq_2, D.demote.eq_1, D.demote.eq_2, D.demoteC.eq_1, D.demoteC.eq_2, St.borrow.eq_1, St.borrow.eq_2, D.isLsl.eq_1, D.isLsl.eq_2, D.fresh1.eq_1, D.fresh1.eq_2, St.close.eq_1, St.close.eq_2, T3, T5, T9, T64, T65, e_seq, e_region, e_dyn, e_dynS, stepD, accs, accP, accW, simpleOp, isAl, isExt, flipD, D.row, D.plain, D.plain.plainL, St.close1, List.flatten_cons, List.flatten_nil, e_block, e_cond, e_ret, e_skip, e_exit, e_plain, e_guard, e_nil, e_op, e_ifT, e_ifF, e_true, e_false, e_loop, e_l, e_top, e_seqN, e_seqE, e_seqR, e_blockN, e_blockR, e_blockE,
    begin_f, begin_t, end_f, e_finN, e_finX, e_finR, retV, resV, resL, outCL, outL, wantedV, opV, An.mid, thawV, D.plainU, prune, List.map_cons, List.map_nil, envOf, get, put, eval, evalT, nz, argsV, capsV, ofV, nbeq, nble, binV, binV.aggV, unV, intV, eqOp, isConst, natV, optV, loadV, loadC, storeV, setC, St.at_, partV, partTy, indexAddrV, fieldAddrV, sliceV, sliceV.rowSl, sliceV.strSl, bounds, cutP,
    builtinV, lenV, maxL, maxV, appendV, St.elems, roomy, rowOf, rowS, isStr, esz, tdOf, convV, buildV, fillV, partsV, okParts, fillL, D.whole, demoteL, D.global, D.flat, D.leaf, D.cells, TI.agg, TD.rowish, callOpV, moveL, CC, keepB, St.borrowL, adoptCL, adoptL, 
    List.toArray, Array.toList, List.length_cons, List.length_nil, List.length_map, List.length_append, List.length_replicate, List.replicate_succ, List.replicate_zero, List.replicate_one, ← List.map_take, ← List.map_drop, List.isEmpty_cons, List.isEmpty_nil, List.drop_zero, List.take_succ_cons, List.take_zero, List.take_nil, List.drop_succ_cons, List.drop_nil, Nat.zero_le, Nat.le_refl, Nat.sub_zero, List.getElem?_cons_succ, List.getElem?_cons_zero, List.getElem?_nil, List.any_cons, List.any_nil, List.all_cons, List.all_nil, List.append_nil, List.nil_append, List.cons_append, List.set_cons_zero, List.set_cons_succ,
    cond_true, cond_false, decide_true, decide_false, Bool.true_and, Bool.and_true, Bool.false_and, Bool.and_false, Bool.true_or, Bool.or_true, Bool.false_or, Bool.or_false, Bool.not_true, Bool.not_false, Bool.and_self, Bool.or_self, bT, bF, ieq, ine, decide_eq_true_eq, decide_not,
    Nat.reduceEqDiff, Nat.reduceAdd, Nat.reduceSub, Nat.reduceMul, Nat.reduceLeDiff, Nat.reduceLT, Nat.zero_add, Nat.add_zero, Option.getD_some, Option.getD_none, Option.isSome_some, Option.isSome_none, reduceIte, reduceCtorEq, and_self, and_true, true_and, not_true_eq_false, not_false_eq_true, false_imp_iff, forall_const, imp_self,
    Int.reduceNeg, Int.reduceLT, Int.reduceLE, Int.reduceGT, Int.reduceGE, Int.reduceAdd, Int.reduceSub, Int.reduceMul, Int.reduceToNat, Int.reduceEq, ne_eq, eq_self, beq_self_eq_true]
  · have k4 : cntI n = 0 := by unfold cntI; rw [if_pos (by omega)]
    rw [k4] at f6
    simp only [hg0, hg1, hg2, f1, f2, f3, f4, f5, f6, b1, s1, k3, e4, errD_dem, errD_demC, errD_bor, errD_out, errD_outC, errD_ado, errD_adoC, errD_adoR, errD_plain, errD_close, errD_lsl, errD_fresh, implies_true, false_implies, D.vec.injEq, adopt.eq_1, adopt.eq_2, adoptC.eq_1, adoptC.eq_2, adoptR.eq_1, adoptR.eq_2, outD.eq_1, outD.eq_2, outD.eq_3, outC.eq_1, outC.eq_2, D.demote.eq_1, D.demote.eq_2, D.demoteC.eq_1, D.demoteC.eq_2, St.borrow.eq_1, St.borrow.eq_2, D.isLsl.eq_1, D.isLsl.eq_2, D.fresh1.eq_1, D.fresh1.eq_2, St.close.eq_1, St.close.eq_2, T3, T5, T9, T64, T65, e_seq, e_region, e_dyn, e_dynS, stepD, accs, accP, accW, simpleOp, isAl, isExt, flipD, D.row, D.plain, D.plain.plainL, St.close1, List.flatten_cons, List.flatten_nil, e_block, e_cond, e_ret, e_skip, e_exit, e_plain, e_guard, e_nil, e_op, e_ifT, e_ifF, e_true, e_false, e_loop, e_l, e_top, e_seqN, e_seqE, e_seqR, e_blockN, e_blockR, e_blockE,
    begin_f, begin_t, end_f, e_finN, e_finX, e_finR, retV, resV, resL, outCL, outL, wantedV, opV, An.mid, thawV, D.plainU, prune, List.map_cons, List.map_nil, envOf, get, put, eval, evalT, nz, argsV, capsV, ofV, nbeq, nble, binV, binV.aggV, unV, intV, eqOp, isConst, natV, optV, loadV, loadC, storeV, setC, St.at_, partV, partTy, indexAddrV, fieldAddrV, sliceV, sliceV.rowSl, sliceV.strSl, bounds, cutP,
    builtinV, lenV, maxL, maxV, appendV, St.elems, roomy, rowOf, rowS, isStr, esz, tdOf, convV, buildV, fillV, partsV, okParts, fillL, D.whole, demoteL, D.global, D.flat, D.leaf, D.cells, TI.agg, TD.rowish, callOpV, moveL, CC, keepB, St.borrowL, adoptCL, adoptL, 
    List.toArray, Array.toList, List.length_cons, List.length_nil, List.length_map, List.length_append, List.length_replicate, List.replicate_succ, List.replicate_zero, List.replicate_one, ← List.map_take, ← List.map_drop, List.isEmpty_cons, List.isEmpty_nil, List.drop_zero, List.take_succ_cons, List.take_zero, List.take_nil, List.drop_succ_cons, List.drop_nil, Nat.zero_le, Nat.le_refl, Nat.sub_zero, List.getElem?_cons_succ, List.getElem?_cons_zero, List.getElem?_nil, List.any_cons, List.any_nil, List.all_cons, List.all_nil, List.append_nil, List.nil_append, List.cons_append, List.set_cons_zero, List.set_cons_succ,
    cond_true, cond_false, decide_true, decide_false, Bool.true_and, Bool.and_true, Bool.false_and, Bool.and_false, Bool.true_or, Bool.or_true, Bool.false_or, Bool.or_false, Bool.not_true, Bool.not_false, Bool.and_self, Bool.or_self, bT, bF, ieq, ine, decide_eq_true_eq, decide_not,
    Nat.reduceEqDiff, Nat.reduceAdd, Nat.reduceSub, Nat.reduceMul, Nat.reduceLeDiff, Nat.reduceLT, Nat.zero_add, Nat.add_zero, Option.getD_some, Option.getD_none, Option.isSome_some, Option.isSome_none, reduceIte, reduceCtorEq, and_self, and_true, true_and, not_true_eq_false, not_false_eq_true, false_imp_iff, forall_const, imp_self,
    Int.reduceNeg, Int.reduceLT, Int.reduceLE, Int.reduceGT, Int.reduceGE, Int.reduceAdd, Int.reduceSub, Int.reduceMul, Int.reduceToNat, Int.reduceEq, ne_eq, eq_self, beq_self_eq_true]

/-! ### ChainBack -/
theorem pc_append (v : List UInt8) (i : Nat) : v.take (502 * i) ++ pc v i = v.take (502 * (i + 1)) := by
  unfold pc
  rw [Nat.mul_add, Nat.mul_one, List.take_add]

theorem enc_dec {m : Nat} {s : List UInt8} (hm : m < 1024) (h1 : m ≠ 1) (hs : s ≠ []) (hl : s.length ≤ 502) : encS m s = (byteAt m 1 :: byteAt m 0 :: s, 0) ∧ decS (byteAt m 1 :: byteAt m 0 :: s) = (m, s, 0) := by
  have hp : pageS m = true := page_iff.2 ⟨h1, hm⟩
  have hs0 : 0 < s.length := List.length_pos_iff.mpr hs
  refine ⟨?_, ?_⟩
  · unfold encS
    rw [if_neg (by rintro (h | h | h); rw [hp] at h; cases h; exact hs h; omega), Int.toNat_natCast]
  · have hN : decN (byteAt m 1 :: byteAt m 0 :: s) = m := by
      show (byteAt m 1).toNat * 256 + (byteAt m 0).toNat = m
      unfold byteAt
      rw [UInt8.toNat_ofNat', UInt8.toNat_ofNat', Nat.pow_zero, Nat.div_one, Nat.pow_one]; omega
    unfold decS
    rw [hN, if_neg (by rintro (h | h | h); simp at h; omega; simp at h; omega; rw [hp] at h; cases h)]
    rfl

def st8 (B : Hp) (v : List UInt8) (i : Nat) : St :=
  ⟨[(0, .str v), (3, .vec 1 ((pcs v).map .str) (.own 0)), (4, .str (v.take (502 * i))), (5, .int .i64 i)], [], [true], B⟩

set_option maxRecDepth 10000 in
set_option maxHeartbeats 4000000 in
theorem loop8 (hC : Known10 C) (B : Hp) (v : List UInt8) (hv : v.length ≤ 5000) (st : St) (hst : an8.at_ (some 6) st = st8 B v 0) :
    ∃ x st', loopC T an8 C lp8_0 st = some (x, st') ∧ ∃ ρ p, x = .exit 0 ∧ st' = ⟨ρ, [], [true], B⟩ ∧ get ρ 0 = .str v ∧ get ρ 4 = .str v ∧ get ρ 3 = .vec 1 ((pcs v).map .str) p := by
  have hL := hC.toLib10
  have hl := pcs_length v
  have hc : cnt v.length ≤ 10 := by unfold cnt; omega
  refine loop_rule (st8 B v) (fun i => i ≤ cnt v.length) (fun i => cnt v.length - i)
    (fun x st' => ∃ ρ p, x = .exit 0 ∧ st' = ⟨ρ, [], [true], B⟩ ∧ get ρ 0 = .str v ∧ get ρ 4 = .str v ∧ get ρ 3 = .vec 1 ((pcs v).map .str) p) ?_ 0 st hst (Nat.zero_le _)
  intro i hi
  rcases Nat.lt_or_ge i (cnt v.length) with h | h
  · left
    have g0 : (i : Int) < ((pcs v).length : Int) := by omega
    have g1 : (0 : Int) ≤ i := by omega
    have g2 := pcs_get h
    have g3 : IntKind.i64.wrap ((i : Int) + 1) = ((i + 1 : Nat) : Int) := by rw [wrapI (by omega) (by omega)]; rfl
    have hpl : (pc v i).length = min 502 (v.length - 502 * i) := by unfold pc; simp
    have hp0 : 0 < (pc v i).length := by unfold cnt at h; omega
    have hpn : pc v i ≠ [] := List.length_pos_iff.mp hp0
    have s2 : strV .add (v.take (502 * i)) (pc v i) = some (.str (v.take (502 * (i + 1)))) := by
      unfold strV
      simp only
      rw [if_pos (by simp; omega), pc_append]
    have hpl5 : (pc v i).length ≤ 502 := by omega
    refine ⟨i + 1, ?_, by omega, by omega⟩
    by_cases hn : i + 1 < cnt v.length
    · have k1 : ((i + 1 : Nat) : Int) < ((pcs v).length : Int) := by omega
      have k2 : IntKind.i64.wrap ((i : Int) + 2) = ((i + 2 : Nat) : Int) := by rw [wrapI (by omega) (by omega)]; rfl
      obtain ⟨q1, q2⟩ := enc_dec (m := i + 2) (s := pc v i) (by omega) (by omega) hpn hpl5
      have f1 := c46 hL ((i + 2 : Nat) : Int) (pc v i)
      have f2 := c48 hL (byteAt (i + 2) 1 :: byteAt (i + 2) 0 :: pc v i)
      rw [q1] at f1; rw [q2] at f2
      have hel : ¬ ((byteAt (i + 2) 1 :: byteAt (i + 2) 0 :: pc v i).length : Int) > 504 := by simp only [List.length_cons]; omega
      have k3 : ((pc v i).length : Int) = 502 := by unfold cnt at hn; omega
      generalize byteAt (i + 2) 1 :: byteAt (i + 2) 0 :: pc v i = en at f1 f2 hel
      simp only [errD_zero] at f1 f2
      generalize pc v i = pi at g2 s2 f1 f2 k3
      simp only [st8, lp8_0, subC, atC, Tryd.f8, an8, g0, g1, g2, g3, k1, k2, k3, f1, f2, hel, s2, List.getElem?_map, Int.toNat_natCast, Option.map_some, str_same, T3, T5, T9, T30, T64, T65, e_seq, e_region, e_dyn, e_dynS, stepD, accs, accP, accW, simpleOp, isAl, isExt, flipD, D.fresh1, D.row, D.plain, D.plain.plainL, St.close, St.close1, St.borrow, List.flatten_cons, List.flatten_nil, e_block, e_cond, e_ret, e_skip, e_exit, e_plain, e_guard, e_nil, e_op, e_ifT, e_ifF, e_true, e_false, e_loop, e_l, e_top, e_seqN, e_seqE, e_seqR, e_blockN, e_blockR, e_blockE,
    begin_f, begin_t, end_f, e_finN, e_finX, e_finR, retV, resV, resL, outCL, outC, outL, outD, wantedV, opV, An.mid, thawV, D.plainU, prune, List.map_cons, List.map_nil, envOf, get, put, eval, evalT, nz, argsV, capsV, ofV, nbeq, nble, binV, binV.aggV, unV, intV, eqOp, isConst, natV, optV, loadV, loadC, storeV, setC, St.at_, partV, partTy, indexAddrV, fieldAddrV, sliceV, sliceV.rowSl, sliceV.strSl, bounds, cutP,
    builtinV, lenV, maxL, maxV, appendV, St.elems, roomy, rowOf, rowS, isStr, esz, tdOf, convV, buildV, fillV, partsV, okParts, fillL, D.whole, D.demoteC, D.demote, demoteL, D.global, D.flat, D.leaf, D.cells, TI.agg, TD.rowish, callOpV, moveL, CC, keepB, St.borrowL, St.borrow, D.isLsl, adoptR, adoptC, adoptCL, adoptL, adopt,
    List.toArray, Array.toList, List.length_cons, List.length_nil, List.length_map, List.length_append, List.length_replicate, List.replicate_succ, List.replicate_zero, List.replicate_one, ← List.map_take, ← List.map_drop, List.isEmpty_cons, List.isEmpty_nil, List.drop_zero, List.take_succ_cons, List.take_zero, List.take_nil, List.drop_succ_cons, List.drop_nil, Nat.zero_le, Nat.le_refl, Nat.sub_zero, List.getElem?_cons_succ, List.getElem?_cons_zero, List.getElem?_nil, List.any_cons, List.any_nil, List.all_cons, List.all_nil, List.append_nil, List.nil_append, List.cons_append, List.set_cons_zero, List.set_cons_succ,
    cond_true, cond_false, decide_true, decide_false, Bool.true_and, Bool.and_true, Bool.false_and, Bool.and_false, Bool.true_or, Bool.or_true, Bool.false_or, Bool.or_false, Bool.not_true, Bool.not_false, Bool.and_self, Bool.or_self, bT, bF, ieq, ine, decide_eq_true_eq, decide_not,
    Nat.reduceEqDiff, Nat.reduceAdd, Nat.reduceSub, Nat.reduceMul, Nat.reduceLeDiff, Nat.reduceLT, Nat.zero_add, Nat.add_zero, Option.getD_some, Option.getD_none, Option.isSome_some, Option.isSome_none, reduceIte, reduceCtorEq, and_self, and_true, true_and, not_true_eq_false, not_false_eq_true, false_imp_iff, forall_const, imp_self,
    Int.reduceNeg, Int.reduceLT, Int.reduceLE, Int.reduceGT, Int.reduceGE, Int.reduceAdd, Int.reduceSub, Int.reduceMul, Int.reduceToNat, Int.reduceEq, ne_eq, eq_self, beq_self_eq_true]
      exact ⟨_, rfl, rfl⟩
    · have k1 : ¬ ((i + 1 : Nat) : Int) < ((pcs v).length : Int) := by omega
      obtain ⟨q1, q2⟩ := enc_dec (m := 0) (s := pc v i) (by omega) (by omega) hpn hpl5
      have f1 : ∀ B, C 46 [.int .i64 0, .str (pc v i)] B = some (.tuple [.vec 1 ((encS (0 : Nat) (pc v i)).1.map byteD) .fresh, errD (encS (0 : Nat) (pc v i)).2], B) := c46 hL 0 (pc v i)
      have f2 := c48 hL (byteAt 0 1 :: byteAt 0 0 :: pc v i)
      rw [q1] at f1; rw [q2] at f2
      have hel : ¬ ((byteAt 0 1 :: byteAt 0 0 :: pc v i).length : Int) > 504 := by simp only [List.length_cons]; omega
      generalize byteAt 0 1 :: byteAt 0 0 :: pc v i = en at f1 f2 hel
      simp only [errD_zero, Int.natCast_zero] at f1 f2
      generalize pc v i = pi at g2 s2 f1 f2
      simp only [st8, lp8_0, subC, atC, Tryd.f8, an8, g0, g1, g2, g3, k1, f1, f2, hel, s2, List.getElem?_map, Int.toNat_natCast, Option.map_some, str_same, T3, T5, T9, T30, T64, T65, e_seq, e_region, e_dyn, e_dynS, stepD, accs, accP, accW, simpleOp, isAl, isExt, flipD, D.fresh1, D.row, D.plain, D.plain.plainL, St.close, St.close1, St.borrow, List.flatten_cons, List.flatten_nil, e_block, e_cond, e_ret, e_skip, e_exit, e_plain, e_guard, e_nil, e_op, e_ifT, e_ifF, e_true, e_false, e_loop, e_l, e_top, e_seqN, e_seqE, e_seqR, e_blockN, e_blockR, e_blockE,
    begin_f, begin_t, end_f, e_finN, e_finX, e_finR, retV, resV, resL, outCL, outC, outL, outD, wantedV, opV, An.mid, thawV, D.plainU, prune, List.map_cons, List.map_nil, envOf, get, put, eval, evalT, nz, argsV, capsV, ofV, nbeq, nble, binV, binV.aggV, unV, intV, eqOp, isConst, natV, optV, loadV, loadC, storeV, setC, St.at_, partV, partTy, indexAddrV, fieldAddrV, sliceV, sliceV.rowSl, sliceV.strSl, bounds, cutP,
    builtinV, lenV, maxL, maxV, appendV, St.elems, roomy, rowOf, rowS, isStr, esz, tdOf, convV, buildV, fillV, partsV, okParts, fillL, D.whole, D.demoteC, D.demote, demoteL, D.global, D.flat, D.leaf, D.cells, TI.agg, TD.rowish, callOpV, moveL, CC, keepB, St.borrowL, St.borrow, D.isLsl, adoptR, adoptC, adoptCL, adoptL, adopt,
    List.toArray, Array.toList, List.length_cons, List.length_nil, List.length_map, List.length_append, List.length_replicate, List.replicate_succ, List.replicate_zero, List.replicate_one, ← List.map_take, ← List.map_drop, List.isEmpty_cons, List.isEmpty_nil, List.drop_zero, List.take_succ_cons, List.take_zero, List.take_nil, List.drop_succ_cons, List.drop_nil, Nat.zero_le, Nat.le_refl, Nat.sub_zero, List.getElem?_cons_succ, List.getElem?_cons_zero, List.getElem?_nil, List.any_cons, List.any_nil, List.all_cons, List.all_nil, List.append_nil, List.nil_append, List.cons_append, List.set_cons_zero, List.set_cons_succ,
    cond_true, cond_false, decide_true, decide_false, Bool.true_and, Bool.and_true, Bool.false_and, Bool.and_false, Bool.true_or, Bool.or_true, Bool.false_or, Bool.or_false, Bool.not_true, Bool.not_false, Bool.and_self, Bool.or_self, bT, bF, ieq, ine, decide_eq_true_eq, decide_not,
    Nat.reduceEqDiff, Nat.reduceAdd, Nat.reduceSub, Nat.reduceMul, Nat.reduceLeDiff, Nat.reduceLT, Nat.zero_add, Nat.add_zero, Option.getD_some, Option.getD_none, Option.isSome_some, Option.isSome_none, reduceIte, reduceCtorEq, and_self, and_true, true_and, not_true_eq_false, not_false_eq_true, false_imp_iff, forall_const, imp_self,
    Int.reduceNeg, Int.reduceLT, Int.reduceLE, Int.reduceGT, Int.reduceGE, Int.reduceAdd, Int.reduceSub, Int.reduceMul, Int.reduceToNat, Int.reduceEq, ne_eq, eq_self, beq_self_eq_true]
      exact ⟨_, rfl, rfl⟩
  · right
    have g0 : ¬ (i : Int) < ((pcs v).length : Int) := by omega
    have hw : v.take (502 * i) = v := List.take_of_length_le (by unfold cnt at h; omega)
    simp only [st8, lp8_0, subC, atC, Tryd.f8, an8, g0, hw, T3, T5, T9, T30, T64, T65, e_seq, e_region, e_dyn, e_dynS, stepD, accs, accP, accW, simpleOp, isAl, isExt, flipD, D.fresh1, D.row, D.plain, D.plain.plainL, St.close, St.close1, St.borrow, List.flatten_cons, List.flatten_nil, e_block, e_cond, e_ret, e_skip, e_exit, e_plain, e_guard, e_nil, e_op, e_ifT, e_ifF, e_true, e_false, e_loop, e_l, e_top, e_seqN, e_seqE, e_seqR, e_blockN, e_blockR, e_blockE,
    begin_f, begin_t, end_f, e_finN, e_finX, e_finR, retV, resV, resL, outCL, outC, outL, outD, wantedV, opV, An.mid, thawV, D.plainU, prune, List.map_cons, List.map_nil, envOf, get, put, eval, evalT, nz, argsV, capsV, ofV, nbeq, nble, binV, binV.aggV, unV, intV, eqOp, isConst, natV, optV, loadV, loadC, storeV, setC, St.at_, partV, partTy, indexAddrV, fieldAddrV, sliceV, sliceV.rowSl, sliceV.strSl, bounds, cutP,
    builtinV, lenV, maxL, maxV, appendV, St.elems, roomy, rowOf, rowS, isStr, esz, tdOf, convV, buildV, fillV, partsV, okParts, fillL, D.whole, D.demoteC, D.demote, demoteL, D.global, D.flat, D.leaf, D.cells, TI.agg, TD.rowish, callOpV, moveL, CC, keepB, St.borrowL, St.borrow, D.isLsl, adoptR, adoptC, adoptCL, adoptL, adopt,
    List.toArray, Array.toList, List.length_cons, List.length_nil, List.length_map, List.length_append, List.length_replicate, List.replicate_succ, List.replicate_zero, List.replicate_one, ← List.map_take, ← List.map_drop, List.isEmpty_cons, List.isEmpty_nil, List.drop_zero, List.take_succ_cons, List.take_zero, List.take_nil, List.drop_succ_cons, List.drop_nil, Nat.zero_le, Nat.le_refl, Nat.sub_zero, List.getElem?_cons_succ, List.getElem?_cons_zero, List.getElem?_nil, List.any_cons, List.any_nil, List.all_cons, List.all_nil, List.append_nil, List.nil_append, List.cons_append, List.set_cons_zero, List.set_cons_succ,
    cond_true, cond_false, decide_true, decide_false, Bool.true_and, Bool.and_true, Bool.false_and, Bool.and_false, Bool.true_or, Bool.or_true, Bool.false_or, Bool.or_false, Bool.not_true, Bool.not_false, Bool.and_self, Bool.or_self, bT, bF, ieq, ine, decide_eq_true_eq, decide_not,
    Nat.reduceEqDiff, Nat.reduceAdd, Nat.reduceSub, Nat.reduceMul, Nat.reduceLeDiff, Nat.reduceLT, Nat.zero_add, Nat.add_zero, Option.getD_some, Option.getD_none, Option.isSome_some, Option.isSome_none, reduceIte, reduceCtorEq, and_self, and_true, true_and, not_true_eq_false, not_false_eq_true, false_imp_iff, forall_const, imp_self,
    Int.reduceNeg, Int.reduceLT, Int.reduceLE, Int.reduceGT, Int.reduceGE, Int.reduceAdd, Int.reduceSub, Int.reduceMul, Int.reduceToNat, Int.reduceEq, ne_eq, eq_self, beq_self_eq_true]
    exact ⟨_, _, rfl, by simp, _, _, rfl, rfl, rfl, rfl, rfl⟩

set_option maxRecDepth 10000 in
set_option maxHeartbeats 4000000 in
theorem run8 (hC : Known10 C) (v : List UInt8) (B : Hp) : runV T C fi8 [.str v] B = some (.bool true, B) := by
  rw [e_run _ _ _ rfl]
  have hL := hC.toLib10
  have e4 := c42 hC
  by_cases k1 : (v.length : Int) > 5000
  · simp only [fi8, Tryd.f8, an8, k1, e4, T3, T5, T9, T30, T64, T65, e_seq, e_region, e_dyn, e_dynS, stepD, accs, accP, accW, simpleOp, isAl, isExt, flipD, D.fresh1, D.row, D.plain, D.plain.plainL, St.close, St.close1, St.borrow, List.flatten_cons, List.flatten_nil, e_block, e_cond, e_ret, e_skip, e_exit, e_plain, e_guard, e_nil, e_op, e_ifT, e_ifF, e_true, e_false, e_loop, e_l, e_top, e_seqN, e_seqE, e_seqR, e_blockN, e_blockR, e_blockE,
    begin_f, begin_t, end_f, e_finN, e_finX, e_finR, retV, resV, resL, outCL, outC, outL, outD, wantedV, opV, An.mid, thawV, D.plainU, prune, List.map_cons, List.map_nil, envOf, get, put, eval, evalT, nz, argsV, capsV, ofV, nbeq, nble, binV, binV.aggV, unV, intV, eqOp, isConst, natV, optV, loadV, loadC, storeV, setC, St.at_, partV, partTy, indexAddrV, fieldAddrV, sliceV, sliceV.rowSl, sliceV.strSl, bounds, cutP,
    builtinV, lenV, maxL, maxV, appendV, St.elems, roomy, rowOf, rowS, isStr, esz, tdOf, convV, buildV, fillV, partsV, okParts, fillL, D.whole, D.demoteC, D.demote, demoteL, D.global, D.flat, D.leaf, D.cells, TI.agg, TD.rowish, callOpV, moveL, CC, keepB, St.borrowL, St.borrow, D.isLsl, adoptR, adoptC, adoptCL, adoptL, adopt,
    List.toArray, Array.toList, List.length_cons, List.length_nil, List.length_map, List.length_append, List.length_replicate, List.replicate_succ, List.replicate_zero, List.replicate_one, ← List.map_take, ← List.map_drop, List.isEmpty_cons, List.isEmpty_nil, List.drop_zero, List.take_succ_cons, List.take_zero, List.take_nil, List.drop_succ_cons, List.drop_nil, Nat.zero_le, Nat.le_refl, Nat.sub_zero, List.getElem?_cons_succ, List.getElem?_cons_zero, List.getElem?_nil, List.any_cons, List.any_nil, List.all_cons, List.all_nil, List.append_nil, List.nil_append, List.cons_append, List.set_cons_zero, List.set_cons_succ,
    cond_true, cond_false, decide_true, decide_false, Bool.true_and, Bool.and_true, Bool.false_and, Bool.and_false, Bool.true_or, Bool.or_true, Bool.false_or, Bool.or_false, Bool.not_true, Bool.not_false, Bool.and_self, Bool.or_self, bT, bF, ieq, ine, decide_eq_true_eq, decide_not,
    Nat.reduceEqDiff, Nat.reduceAdd, Nat.reduceSub, Nat.reduceMul, Nat.reduceLeDiff, Nat.reduceLT, Nat.zero_add, Nat.add_zero, Option.getD_some, Option.getD_none, Option.isSome_some, Option.isSome_none, reduceIte, reduceCtorEq, and_self, and_true, true_and, not_true_eq_false, not_false_eq_true, false_imp_iff, forall_const, imp_self,
    Int.reduceNeg, Int.reduceLT, Int.reduceLE, Int.reduceGT, Int.reduceGE, Int.reduceAdd, Int.reduceSub, Int.reduceMul, Int.reduceToNat, Int.reduceEq, ne_eq, eq_self, beq_self_eq_true]
  have g1 := fun B => hL.pieces v B (by omega)
  have g3 : ∀ B, C 45 [.int .i64 (v.length : Int)] B = some (.int .i64 ((pcs v).length : Int), B) := fun B => by
    rw [c45 hL _ (by omega) (by omega), cntI_nat, pcs_length]
  simp only [fi8, Tryd.f8, an8, k1, e4, g1, T3, T5, T9, T30, T64, T65, e_seq, e_region, e_dyn, e_dynS, stepD, accs, accP, accW, simpleOp, isAl, isExt, flipD, D.fresh1, D.row, D.plain, D.plain.plainL, St.close, St.close1, St.borrow, List.flatten_cons, List.flatten_nil, e_block, e_cond, e_ret, e_skip, e_exit, e_plain, e_guard, e_nil, e_op, e_ifT, e_ifF, e_true, e_false, e_loop, e_l, e_top, e_seqN, e_seqE, e_seqR, e_blockN, e_blockR, e_blockE,
    begin_f, begin_t, end_f, e_finN, e_finX, e_finR, retV, resV, resL, outCL, outC, outL, outD, wantedV, opV, An.mid, thawV, D.plainU, prune, List.map_cons, List.map_nil, envOf, get, put, eval, evalT, nz, argsV, capsV, ofV, nbeq, nble, binV, binV.aggV, unV, intV, eqOp, isConst, natV, optV, loadV, loadC, storeV, setC, St.at_, partV, partTy, indexAddrV, fieldAddrV, sliceV, sliceV.rowSl, sliceV.strSl, bounds, cutP,
    builtinV, lenV, maxL, maxV, appendV, St.elems, roomy, rowOf, rowS, isStr, esz, tdOf, convV, buildV, fillV, partsV, okParts, fillL, D.whole, D.demoteC, D.demote, demoteL, D.global, D.flat, D.leaf, D.cells, TI.agg, TD.rowish, callOpV, moveL, CC, keepB, St.borrowL, St.borrow, D.isLsl, adoptR, adoptC, adoptCL, adoptL, adopt,
    List.toArray, Array.toList, List.length_cons, List.length_nil, List.length_map, List.length_append, List.length_replicate, List.replicate_succ, List.replicate_zero, List.replicate_one, ← List.map_take, ← List.map_drop, List.isEmpty_cons, List.isEmpty_nil, List.drop_zero, List.take_succ_cons, List.take_zero, List.take_nil, List.drop_succ_cons, List.drop_nil, Nat.zero_le, Nat.le_refl, Nat.sub_zero, List.getElem?_cons_succ, List.getElem?_cons_zero, List.getElem?_nil, List.any_cons, List.any_nil, List.all_cons, List.all_nil, List.append_nil, List.nil_append, List.cons_append, List.set_cons_zero, List.set_cons_succ,
    cond_true, cond_false, decide_true, decide_false, Bool.true_and, Bool.and_true, Bool.false_and, Bool.and_false, Bool.true_or, Bool.or_true, Bool.false_or, Bool.or_false, Bool.not_true, Bool.not_false, Bool.and_self, Bool.or_self, bT, bF, ieq, ine, decide_eq_true_eq, decide_not,
    Nat.reduceEqDiff, Nat.reduceAdd, Nat.reduceSub, Nat.reduceMul, Nat.reduceLeDiff, Nat.reduceLT, Nat.zero_add, Nat.add_zero, Option.getD_some, Option.getD_none, Option.isSome_some, Option.isSome_none, reduceIte, reduceCtorEq, and_self, and_true, true_and, not_true_eq_false, not_false_eq_true, false_imp_iff, forall_const, imp_self,
    Int.reduceNeg, Int.reduceLT, Int.reduceLE, Int.reduceGT, Int.reduceGE, Int.reduceAdd, Int.reduceSub, Int.reduceMul, Int.reduceToNat, Int.reduceEq, ne_eq, eq_self, beq_self_eq_true]
  refine' in_loop (c' := lp8_0) (fin T _ _ _) ?h rfl ?q
  case h => exact loop8 hC B v (by omega) _ rfl
  rintro x st' ⟨ρ, p, rfl, rfl, hg0, hg4, hg3⟩
  have s1 := (str_eq v v).trans (by rw [decide_eq_true rfl])
  simp only [hg0, hg4, hg3, s1, g3, e4, T3, T5, T9, T30, T64, T65, e_seq, e_region, e_dyn, e_dynS, stepD, accs, accP, accW, simpleOp, isAl, isExt, flipD, D.fresh1, D.row, D.plain, D.plain.plainL, St.close, St.close1, St.borrow, List.flatten_cons, List.flatten_nil, e_block, e_cond, e_ret, e_skip, e_exit, e_plain, e_guard, e_nil, e_op, e_ifT, e_ifF, e_true, e_false, e_loop, e_l, e_top, e_seqN, e_seqE, e_seqR, e_blockN, e_blockR, e_blockE,
    begin_f, begin_t, end_f, e_finN, e_finX, e_finR, retV, resV, resL, outCL, outC, outL, outD, wantedV, opV, An.mid, thawV, D.plainU, prune, List.map_cons, List.map_nil, envOf, get, put, eval, evalT, nz, argsV, capsV, ofV, nbeq, nble, binV, binV.aggV, unV, intV, eqOp, isConst, natV, optV, loadV, loadC, storeV, setC, St.at_, partV, partTy, indexAddrV, fieldAddrV, sliceV, sliceV.rowSl, sliceV.strSl, bounds, cutP,
    builtinV, lenV, maxL, maxV, appendV, St.elems, roomy, rowOf, rowS, isStr, esz, tdOf, convV, buildV, fillV, partsV, okParts, fillL, D.whole, D.demoteC, D.demote, demoteL, D.global, D.flat, D.leaf, D.cells, TI.agg, TD.rowish, callOpV, moveL, CC, keepB, St.borrowL, St.borrow, D.isLsl, adoptR, adoptC, adoptCL, adoptL, adopt,
    List.toArray, Array.toList, List.length_cons, List.length_nil, List.length_map, List.length_append, List.length_replicate, List.replicate_succ, List.replicate_zero, List.replicate_one, ← List.map_take, ← List.map_drop, List.isEmpty_cons, List.isEmpty_nil, List.drop_zero, List.take_succ_cons, List.take_zero, List.take_nil, List.drop_succ_cons, List.drop_nil, Nat.zero_le, Nat.le_refl, Nat.sub_zero, List.getElem?_cons_succ, List.getElem?_cons_zero, List.getElem?_nil, List.any_cons, List.any_nil, List.all_cons, List.all_nil, List.append_nil, List.nil_append, List.cons_append, List.set_cons_zero, List.set_cons_succ,
    cond_true, cond_false, decide_true, decide_false, Bool.true_and, Bool.and_true, Bool.false_and, Bool.and_false, Bool.true_or, Bool.or_true, Bool.false_or, Bool.or_false, Bool.not_true, Bool.not_false, Bool.and_self, Bool.or_self, bT, bF, ieq, ine, decide_eq_true_eq, decide_not,
    Nat.reduceEqDiff, Nat.reduceAdd, Nat.reduceSub, Nat.reduceMul, Nat.reduceLeDiff, Nat.reduceLT, Nat.zero_add, Nat.add_zero, Option.getD_some, Option.getD_none, Option.isSome_some, Option.isSome_none, reduceIte, reduceCtorEq, and_self, and_true, true_and, not_true_eq_false, not_false_eq_true, false_imp_iff, forall_const, imp_self,
    Int.reduceNeg, Int.reduceLT, Int.reduceLE, Int.reduceGT, Int.reduceGE, Int.reduceAdd, Int.reduceSub, Int.reduceMul, Int.reduceToNat, Int.reduceEq, ne_eq, eq_self, beq_self_eq_true]

end Go.Proofs.YtploddijjofphaaDoor.V
