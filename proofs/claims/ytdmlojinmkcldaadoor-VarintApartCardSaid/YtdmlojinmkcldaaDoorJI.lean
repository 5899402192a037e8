/-
Layer 3: VarintApart.
-/
import Derived.Test.YtdmlojinmkcldaaDoorJH
namespace Go.Proofs.YtdmlojinmkcldaaDoor.V
open Go Go.RowKit
set_option linter.unusedSimpArgs false
set_option linter.unusedVariables false

set_option maxRecDepth 10000 in
set_option maxHeartbeats 4000000 in
theorem run13 (C : Callees) (hk : Known03 C) (hs : ∀ B, C 45 [] B = some (.bool true, B)) (a b : Nat) (ha : a < 18446744073709551616) (hb : b < 18446744073709551616) (B : Hp) :
    runV T C fi13 [.int .u64 a, .int .u64 b] B = some (.bool true, B) := by
  rw [e_run _ _ _ rfl]
  have ha1 := sizeS_pos a
  have ha2 := sizeS_le ha
  have hb1 := sizeS_pos b
  have hb2 := sizeS_le hb
  have hsa := putS_size a
  have hsb := putS_size b
  have h1 := hk.put .nilsl [] a B (.inl ⟨rfl, rfl⟩) ha (by simp)
  rw [List.nil_append] at h1
  have h2 := hk.put .nilsl [] b B (.inl ⟨rfl, rfl⟩) hb (by simp)
  rw [List.nil_append] at h2
  have h3 : ∀ p, C 49 [.vec 1 ((putS a).map byteD) p, .int .u64 b] B = some (.vec 1 ((putS a ++ putS b).map byteD) .fresh, B) := fun p => hk.put _ (putS a) b B (byD_vec _ _) hb (by omega)
  have h4 : ∀ p, C 46 [.vec 1 ((putS a ++ putS b).map byteD) p] B = some (.tuple [.int .u64 a, .int .i64 (sizeS a : Nat), .nili], B) := fun p => by
    rw [hk.get _ (putS a ++ putS b) B (byD_vec _ _), getD3, getS_put0 (putS b) ha, hsa]; rfl
  have h5 : ∀ p, C 46 [.vec 1 ((putS b).map byteD) p] B = some (.tuple [.int .u64 b, .int .i64 (sizeS b : Nat), .nili], B) := fun p => by
    have := getS_put0 [] hb
    rw [List.append_nil] at this
    rw [hk.get _ (putS b) B (byD_vec _ _), getD3, this, hsb]; rfl
  have e1 : (putS a ++ putS b).drop (sizeS a) = putS b := by rw [← hsa, List.drop_left]
  have e2 : (putS a ++ putS b).take (sizeS a + sizeS b) = putS a ++ putS b := List.take_of_length_le (by simp; omega)
  have e3 : ((sizeS a : Nat) : Int).toNat = sizeS a := by omega
  have e4 : ¬ ((sizeS a : Nat) : Int) < 1 := by omega
  have e5 : ¬ ((sizeS a : Nat) : Int) > ((sizeS a + sizeS b : Nat) : Int) := by omega
  have e6 : IntKind.i64.wrap ((sizeS a : Nat) + (sizeS b : Nat) : Int) = ((sizeS a + sizeS b : Nat) : Int) := by rw [wrapI (by omega) (by omega)]; omega
  have e7 : (0 : Int) ≤ ((sizeS a : Nat) : Int) := by omega
  have e8 : sizeS a ≤ sizeS a + sizeS b := by omega
  have e9 : sizeS a + sizeS b ≤ sizeS a + sizeS b := by omega
  have e10 : 0 ≤ sizeS a := by omega
  by_cases hab : a = b
  · subst hab
    have f1 : (sizeS a : Int) ≤ sizeS a := by omega
    have f2 : (putS a).take (sizeS a) = putS a := by rw [← hsa, List.take_length]
    have f3 : sizeS a ≤ sizeS a := by omega
    simp only [fi13, Tryd.f13, an13, h1, h3, h4, h5, e1, e2, e3, e4, e5, e6, e7, e8, e9, e10, f1, f2, f3, hsa, hs, dp, bytesOf_map, strV, T3, T4, T5, T9, T25, T34, T65, e_seq, e_region, e_dyn, e_dynS, stepD, accs, accP, accW, simpleOp, isAl, isExt, List.flatten_cons, List.flatten_nil, e_block, e_cond, e_ret, e_skip, e_exit, e_plain, e_guard, e_nil, e_op, e_ifT, e_ifF, e_true, e_false, e_loop, e_l, e_top, e_seqN, e_seqE, e_seqR, e_blockN, e_blockR, e_blockE,
    e_finN, e_finX, e_finR, retV, resV, resL, outCL, outC, outL, outD, wantedV, opV, An.at_, prune, List.map_cons, List.map_nil, envOf, get, put, eval, ofV, nbeq, nble, binV, binV.aggV, unV, intV, eqOp, isConst, natV, optV, loadV, loadC, storeV, setC, St.at_, partV, indexAddrV, fieldAddrV, sliceV, sliceV.rowSl, sliceV.strSl, bounds, cutP,
    builtinV, lenV, maxL, maxV, appendV, St.elems, roomy, rowOf, rowS, isStr, esz, tdOf, convV, buildV, fillV, partsV, okParts, fillL, D.whole, D.demoteC, D.demote, demoteL, D.global, D.leaf, D.cells, TI.agg, TD.rowish, callOpV, CC, keepB, St.borrowL, St.borrow, D.isLsl, adoptR, adoptC, adoptCL, adoptL, adopt, upd,
    List.toArray, Array.toList, List.length_cons, List.length_nil, List.length_map, List.length_append, List.length_replicate, List.replicate_succ, List.replicate_zero, List.replicate_one, ← List.map_take, ← List.map_drop, List.drop_zero, List.take_succ_cons, List.take_zero, List.take_nil, List.drop_succ_cons, List.drop_nil, Nat.zero_le, Nat.le_refl, Nat.sub_zero, List.getElem?_cons_succ, List.getElem?_cons_zero, List.getElem?_nil, List.any_cons, List.any_nil, List.all_cons, List.all_nil, List.append_nil, List.nil_append, List.cons_append, List.set_cons_zero, List.set_cons_succ,
    cond_true, cond_false, decide_true, decide_false, Bool.true_and, Bool.and_true, Bool.false_and, Bool.and_false, Bool.true_or, Bool.or_true, Bool.false_or, Bool.or_false, Bool.not_true, Bool.not_false, Bool.and_self, Bool.or_self, bT, bF, ieq, ine, decide_eq_true_eq, decide_not,
    Nat.reduceEqDiff, Nat.reduceAdd, Nat.reduceSub, Nat.reduceMul, Nat.reduceLeDiff, Nat.reduceLT, Nat.zero_add, Nat.add_zero, Option.getD_some, Option.getD_none, Option.isSome_some, Option.isSome_none, reduceIte, reduceCtorEq, and_self, and_true, true_and, not_true_eq_false, not_false_eq_true, false_imp_iff, forall_const, imp_self,
    Int.reduceNeg, Int.reduceLT, Int.reduceLE, Int.reduceGT, Int.reduceGE, Int.reduceAdd, Int.reduceSub, Int.reduceMul, Int.reduceToNat, Int.reduceEq, ne_eq, eq_self, beq_self_eq_true]
  · have g1 : ¬ (a : Int) = b := by omega
    by_cases hle : sizeS a ≤ sizeS b
    · have f1 : (sizeS a : Int) ≤ sizeS b := by omega
      have f2 := begins_iff ha hb (by omega)
      rw [hsa] at f2
      have f3 : decide (a = b) = false := by simp [hab]
      rw [f3] at f2
      have f4 : sizeS b ≤ sizeS b := by omega
      simp only [fi13, Tryd.f13, an13, h1, h2, h3, h4, h5, e1, e2, e3, e4, e5, e6, e7, e8, e9, e10, g1, hle, f1, f2, f4, hsa, hsb, hs, dp, bytesOf_map, strV, T3, T4, T5, T9, T25, T34, T65, e_seq, e_region, e_dyn, e_dynS, stepD, accs, accP, accW, simpleOp, isAl, isExt, List.flatten_cons, List.flatten_nil, e_block, e_cond, e_ret, e_skip, e_exit, e_plain, e_guard, e_nil, e_op, e_ifT, e_ifF, e_true, e_false, e_loop, e_l, e_top, e_seqN, e_seqE, e_seqR, e_blockN, e_blockR, e_blockE,
    e_finN, e_finX, e_finR, retV, resV, resL, outCL, outC, outL, outD, wantedV, opV, An.at_, prune, List.map_cons, List.map_nil, envOf, get, put, eval, ofV, nbeq, nble, binV, binV.aggV, unV, intV, eqOp, isConst, natV, optV, loadV, loadC, storeV, setC, St.at_, partV, indexAddrV, fieldAddrV, sliceV, sliceV.rowSl, sliceV.strSl, bounds, cutP,
    builtinV, lenV, maxL, maxV, appendV, St.elems, roomy, rowOf, rowS, isStr, esz, tdOf, convV, buildV, fillV, partsV, okParts, fillL, D.whole, D.demoteC, D.demote, demoteL, D.global, D.leaf, D.cells, TI.agg, TD.rowish, callOpV, CC, keepB, St.borrowL, St.borrow, D.isLsl, adoptR, adoptC, adoptCL, adoptL, adopt, upd,
    List.toArray, Array.toList, List.length_cons, List.length_nil, List.length_map, List.length_append, List.length_replicate, List.replicate_succ, List.replicate_zero, List.replicate_one, ← List.map_take, ← List.map_drop, List.drop_zero, List.take_succ_cons, List.take_zero, List.take_nil, List.drop_succ_cons, List.drop_nil, Nat.zero_le, Nat.le_refl, Nat.sub_zero, List.getElem?_cons_succ, List.getElem?_cons_zero, List.getElem?_nil, List.any_cons, List.any_nil, List.all_cons, List.all_nil, List.append_nil, List.nil_append, List.cons_append, List.set_cons_zero, List.set_cons_succ,
    cond_true, cond_false, decide_true, decide_false, Bool.true_and, Bool.and_true, Bool.false_and, Bool.and_false, Bool.true_or, Bool.or_true, Bool.false_or, Bool.or_false, Bool.not_true, Bool.not_false, Bool.and_self, Bool.or_self, bT, bF, ieq, ine, decide_eq_true_eq, decide_not,
    Nat.reduceEqDiff, Nat.reduceAdd, Nat.reduceSub, Nat.reduceMul, Nat.reduceLeDiff, Nat.reduceLT, Nat.zero_add, Nat.add_zero, Option.getD_some, Option.getD_none, Option.isSome_some, Option.isSome_none, reduceIte, reduceCtorEq, and_self, and_true, true_and, not_true_eq_false, not_false_eq_true, false_imp_iff, forall_const, imp_self,
    Int.reduceNeg, Int.reduceLT, Int.reduceLE, Int.reduceGT, Int.reduceGE, Int.reduceAdd, Int.reduceSub, Int.reduceMul, Int.reduceToNat, Int.reduceEq, ne_eq, eq_self, beq_self_eq_true]
    · have f1 : ¬ (sizeS a : Int) ≤ sizeS b := by omega
      simp only [fi13, Tryd.f13, an13, h1, h2, h3, h4, h5, e1, e2, e3, e4, e5, e6, e7, e8, e9, e10, g1, f1, hsa, hsb, hs, dp, bytesOf_map, strV, T3, T4, T5, T9, T25, T34, T65, e_seq, e_region, e_dyn, e_dynS, stepD, accs, accP, accW, simpleOp, isAl, isExt, List.flatten_cons, List.flatten_nil, e_block, e_cond, e_ret, e_skip, e_exit, e_plain, e_guard, e_nil, e_op, e_ifT, e_ifF, e_true, e_false, e_loop, e_l, e_top, e_seqN, e_seqE, e_seqR, e_blockN, e_blockR, e_blockE,
    e_finN, e_finX, e_finR, retV, resV, resL, outCL, outC, outL, outD, wantedV, opV, An.at_, prune, List.map_cons, List.map_nil, envOf, get, put, eval, ofV, nbeq, nble, binV, binV.aggV, unV, intV, eqOp, isConst, natV, optV, loadV, loadC, storeV, setC, St.at_, partV, indexAddrV, fieldAddrV, sliceV, sliceV.rowSl, sliceV.strSl, bounds, cutP,
    builtinV, lenV, maxL, maxV, appendV, St.elems, roomy, rowOf, rowS, isStr, esz, tdOf, convV, buildV, fillV, partsV, okParts, fillL, D.whole, D.demoteC, D.demote, demoteL, D.global, D.leaf, D.cells, TI.agg, TD.rowish, callOpV, CC, keepB, St.borrowL, St.borrow, D.isLsl, adoptR, adoptC, adoptCL, adoptL, adopt, upd,
    List.toArray, Array.toList, List.length_cons, List.length_nil, List.length_map, List.length_append, List.length_replicate, List.replicate_succ, List.replicate_zero, List.replicate_one, ← List.map_take, ← List.map_drop, List.drop_zero, List.take_succ_cons, List.take_zero, List.take_nil, List.drop_succ_cons, List.drop_nil, Nat.zero_le, Nat.le_refl, Nat.sub_zero, List.getElem?_cons_succ, List.getElem?_cons_zero, List.getElem?_nil, List.any_cons, List.any_nil, List.all_cons, List.all_nil, List.append_nil, List.nil_append, List.cons_append, List.set_cons_zero, List.set_cons_succ,
    cond_true, cond_false, decide_true, decide_false, Bool.true_and, Bool.and_true, Bool.false_and, Bool.and_false, Bool.true_or, Bool.or_true, Bool.false_or, Bool.or_false, Bool.not_true, Bool.not_false, Bool.and_self, Bool.or_self, bT, bF, ieq, ine, decide_eq_true_eq, decide_not,
    Nat.reduceEqDiff, Nat.reduceAdd, Nat.reduceSub, Nat.reduceMul, Nat.reduceLeDiff, Nat.reduceLT, Nat.zero_add, Nat.add_zero, Option.getD_some, Option.getD_none, Option.isSome_some, Option.isSome_none, reduceIte, reduceCtorEq, and_self, and_true, true_and, not_true_eq_false, not_false_eq_true, false_imp_iff, forall_const, imp_self,
    Int.reduceNeg, Int.reduceLT, Int.reduceLE, Int.reduceGT, Int.reduceGE, Int.reduceAdd, Int.reduceSub, Int.reduceMul, Int.reduceToNat, Int.reduceEq, ne_eq, eq_self, beq_self_eq_true]

end Go.Proofs.YtdmlojinmkcldaaDoor.V
