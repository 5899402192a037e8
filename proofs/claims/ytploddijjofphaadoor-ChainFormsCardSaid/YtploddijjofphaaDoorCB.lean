/-
Layer 10: sure; ChainParts.
-/
import Derived.Test.YtploddijjofphaaDoorCA
namespace Go.Proofs.YtploddijjofphaaDoor.V
open Go Go.RowKit
set_option linter.unusedSimpArgs false
set_option linter.unusedVariables false

/-! warren/warrenlaw10.sure -/
def an42 : An := ⟨fun _ => .none, fun | 9 => 1 | _ => 0, fun _ => false, fun _ => .none⟩
noncomputable def fi42 : FI := ⟨0, 65, Tryd.f42.body.getD .skip, Tryd.f42.results.toList, an42, false, false⟩
theorem ok42 : FnOk Tryd.prog 42 fi42 := ⟨⟨Tryd.f42, Tryd.func42, by kernel_rfl, rfl, rfl, rfl⟩, by decide, by kernel_rfl, fun h => by cases h⟩
/-! warren/warrenlaw10.ChainParts -/
def an9 : An := ⟨fun _ => .none, fun _ => 0, fun _ => false, fun _ => .none⟩
noncomputable def fi9 : FI := ⟨2, 80, Tryd.f9.body.getD .skip, Tryd.f9.results.toList, an9, false, false⟩
theorem ok9 : FnOk Tryd.prog 9 fi9 := ⟨⟨Tryd.f9, Tryd.func9, by kernel_rfl, rfl, rfl, rfl⟩, by decide, by kernel_rfl, fun h => by cases h⟩
structure Known10 (C : Callees) : Prop extends Lib10 C where
  f42 : Has T C 42 fi42
  num : ∀ (n : Nat) (B : Hp), C 50 [errD n] B = some (.int .i64 n, B)

variable {C : Callees}

set_option maxRecDepth 10000 in
set_option maxHeartbeats 2000000 in
theorem run42 (hC : Known10 C) (B : Hp) : runV T C fi42 [] B = some (.bool true, B) := by
  rw [e_run _ _ _ rfl]
  have hL := hC.toLib10
  obtain ⟨z, hz, hzl⟩ : ∃ z : List UInt8, bytesOf (List.replicate 503 (.int .u8 0)) = some z ∧ z.length = 503 := ⟨List.replicate 503 0, by
    have := bytesOf_map (List.replicate 503 0)
    rw [List.map_replicate] at this; exact this, by simp⟩
  have g1 := fun B => hL.pieces z B (by omega)
  have g2 : ((pcs z).length : Int) = 2 := by rw [pcs_length, hzl]; rfl
  have g3 : (pcs z)[1]? = some (pc z 1) := pcs_get (by rw [hzl]; decide)
  have g4 : ((pc z 1).length : Int) = 1 := by unfold pc; simp [hzl]
  have g5 : ∀ B, C 46 [.int .i64 7, .str [120]] B = some (.tuple [.vec 1 [.int .u8 0, .int .u8 7, .int .u8 120] .fresh, .nili], B) := c46 hL 7 [120]
  have g6 : ∀ B, C 48 [.vec 1 [.int .u8 0, .int .u8 7, .int .u8 120] .none] B = some (.tuple [.int .i64 7, .str [120], .nili], B) := c48 hL [0, 7, 120]
  have g7 : ∀ B, C 46 [.int .i64 1, .str [120]] B = some (.tuple [.vec 1 [] .fresh, .iface 85 (.int .i64 1)], B) := c46 hL 1 [120]
  have g8 : ∀ B, C 50 [.iface 85 (.int .i64 1)] B = some (.int .i64 1, B) := hC.num 1
  have g9 : ∀ B, C 45 [.int .i64 503] B = some (.int .i64 2, B) := c45 hL 503 (by decide) (by decide)
  have g10 : ∀ B, C 45 [.int .i64 0] B = some (.int .i64 0, B) := c45 hL 0 (by decide) (by decide)
  have g11 : strV .eql [120] [120] = some (.bool true) := rfl
  simp only [fi42, Tryd.f42, an42, hz, g1, g2, g3, g4, g5, g6, g7, g8, g9, g10, g11, List.getElem?_map, Option.map_some, T3, T5, T9, T30, T64, T65, e_seq, e_region, e_dyn, e_dynS, stepD, accs, accP, accW, simpleOp, isAl, isExt, flipD, D.fresh1, D.row, D.plain, D.plain.plainL, St.close, St.close1, St.borrow, List.flatten_cons, List.flatten_nil, e_block, e_cond, e_ret, e_skip, e_exit, e_plain, e_guard, e_nil, e_op, e_ifT, e_ifF, e_true, e_false, e_loop, e_l, e_top, e_seqN, e_seqE, e_seqR, e_blockN, e_blockR, e_blockE,
    begin_f, begin_t, end_f, e_finN, e_finX, e_finR, retV, resV, resL, outCL, outC, outL, outD, wantedV, opV, An.mid, thawV, D.plainU, prune, List.map_cons, List.map_nil, envOf, get, put, eval, evalT, nz, argsV, capsV, ofV, nbeq, nble, binV, binV.aggV, unV, intV, eqOp, isConst, natV, optV, loadV, loadC, storeV, setC, St.at_, partV, partTy, indexAddrV, fieldAddrV, sliceV, sliceV.rowSl, sliceV.strSl, bounds, cutP,
    builtinV, lenV, maxL, maxV, appendV, St.elems, roomy, rowOf, rowS, isStr, esz, tdOf, convV, buildV, fillV, partsV, okParts, fillL, D.whole, D.demoteC, D.demote, demoteL, D.global, D.flat, D.leaf, D.cells, TI.agg, TD.rowish, callOpV, moveL, CC, keepB, St.borrowL, St.borrow, D.isLsl, adoptR, adoptC, adoptCL, adoptL, adopt,
    List.toArray, Array.toList, List.length_cons, List.length_nil, List.length_map, List.length_append, List.length_replicate, List.replicate_zero, List.replicate_one, ← List.map_take, ← List.map_drop, List.isEmpty_cons, List.isEmpty_nil, List.drop_zero, List.take_succ_cons, List.take_zero, List.take_nil, List.drop_succ_cons, List.drop_nil, Nat.zero_le, Nat.le_refl, Nat.sub_zero, List.getElem?_cons_succ, List.getElem?_cons_zero, List.getElem?_nil, List.any_cons, List.any_nil, List.all_cons, List.all_nil, List.append_nil, List.nil_append, List.cons_append, List.set_cons_zero, List.set_cons_succ,
    cond_true, cond_false, decide_true, decide_false, Bool.true_and, Bool.and_true, Bool.false_and, Bool.and_false, Bool.true_or, Bool.or_true, Bool.false_or, Bool.or_false, Bool.not_true, Bool.not_false, Bool.and_self, Bool.or_self, bT, bF, ieq, ine, decide_eq_true_eq, decide_not,
    Nat.reduceEqDiff, Nat.reduceAdd, Nat.reduceSub, Nat.reduceMul, Nat.reduceLeDiff, Nat.reduceLT, Nat.zero_add, Nat.add_zero, Option.getD_some, Option.getD_none, Option.isSome_some, Option.isSome_none, reduceIte, reduceCtorEq, and_self, and_true, true_and, not_true_eq_false, not_false_eq_true, false_imp_iff, forall_const, imp_self,
    Int.reduceNeg, Int.reduceLT, Int.reduceLE, Int.reduceGT, Int.reduceGE, Int.reduceAdd, Int.reduceSub, Int.reduceMul, Int.reduceToNat, Int.reduceEq, ne_eq, eq_self, beq_self_eq_true]

theorem c42 (hC : Known10 C) (B : Hp) : C 42 [] B = some (.bool true, B) := hC.f42 _ _ _ (run42 hC B)

set_option maxRecDepth 10000 in
set_option maxHeartbeats 4000000 in
theorem run9 (hC : Known10 C) (a b : List UInt8) (B : Hp) : runV T C fi9 [.str a, .str b] B = some (.bool true, B) := by
  rw [e_run _ _ _ rfl]
  have hL := hC.toLib10
  have e4 := c42 hC
  by_cases h1 : (a.length : Int) > 3000
  · simp only [fi9, Tryd.f9, an9, h1, e4, T3, T4, T9, T65, e_seq, e_region, e_dyn, e_dynS, stepD, accs, accP, accW, simpleOp, isAl, isExt, flipD, D.fresh1, D.row, D.plain, D.plain.plainL, St.close, St.close1, St.borrow, List.flatten_cons, List.flatten_nil, e_block, e_cond, e_ret, e_skip, e_exit, e_plain, e_guard, e_nil, e_op, e_ifT, e_ifF, e_true, e_false, e_loop, e_l, e_top, e_seqN, e_seqE, e_seqR, e_blockN, e_blockR, e_blockE,
    begin_f, begin_t, end_f, e_finN, e_finX, e_finR, retV, resV, resL, outCL, outC, outL, outD, wantedV, opV, An.mid, thawV, D.plainU, prune, List.map_cons, List.map_nil, envOf, get, put, eval, evalT, nz, argsV, capsV, ofV, nbeq, nble, binV, binV.aggV, unV, intV, eqOp, isConst, natV, optV, loadV, loadC, storeV, setC, St.at_, partV, partTy, indexAddrV, fieldAddrV, sliceV, sliceV.rowSl, sliceV.strSl, bounds, cutP,
    builtinV, lenV, maxL, maxV, appendV, St.elems, roomy, rowOf, rowS, isStr, esz, tdOf, convV, buildV, fillV, partsV, okParts, fillL, D.whole, D.demoteC, D.demote, demoteL, D.global, D.flat, D.leaf, D.cells, TI.agg, TD.rowish, callOpV, moveL, CC, keepB, St.borrowL, St.borrow, D.isLsl, adoptR, adoptC, adoptCL, adoptL, adopt,
    List.toArray, Array.toList, List.length_cons, List.length_nil, List.length_map, List.length_append, List.length_replicate, List.replicate_succ, List.replicate_zero, List.replicate_one, ← List.map_take, ← List.map_drop, List.isEmpty_cons, List.isEmpty_nil, List.drop_zero, List.take_succ_cons, List.take_zero, List.take_nil, List.drop_succ_cons, List.drop_nil, Nat.zero_le, Nat.le_refl, Nat.sub_zero, List.getElem?_cons_succ, List.getElem?_cons_zero, List.getElem?_nil, List.any_cons, List.any_nil, List.all_cons, List.all_nil, List.append_nil, List.nil_append, List.cons_append, List.set_cons_zero, List.set_cons_succ,
    cond_true, cond_false, decide_true, decide_false, Bool.true_and, Bool.and_true, Bool.false_and, Bool.and_false, Bool.true_or, Bool.or_true, Bool.false_or, Bool.or_false, Bool.not_true, Bool.not_false, Bool.and_self, Bool.or_self, bT, bF, ieq, ine, decide_eq_true_eq, decide_not,
    Nat.reduceEqDiff, Nat.reduceAdd, Nat.reduceSub, Nat.reduceMul, Nat.reduceLeDiff, Nat.reduceLT, Nat.zero_add, Nat.add_zero, Option.getD_some, Option.getD_none, Option.isSome_some, Option.isSome_none, reduceIte, reduceCtorEq, and_self, and_true, true_and, not_true_eq_false, not_false_eq_true, false_imp_iff, forall_const, imp_self,
    Int.reduceNeg, Int.reduceLT, Int.reduceLE, Int.reduceGT, Int.reduceGE, Int.reduceAdd, Int.reduceSub, Int.reduceMul, Int.reduceToNat, Int.reduceEq, ne_eq, eq_self, beq_self_eq_true]
  by_cases h2 : (b.length : Int) > 3000
  · simp only [fi9, Tryd.f9, an9, h1, h2, e4, T3, T4, T9, T65, e_seq, e_region, e_dyn, e_dynS, stepD, accs, accP, accW, simpleOp, isAl, isExt, flipD, D.fresh1, D.row, D.plain, D.plain.plainL, St.close, St.close1, St.borrow, List.flatten_cons, List.flatten_nil, e_block, e_cond, e_ret, e_skip, e_exit, e_plain, e_guard, e_nil, e_op, e_ifT, e_ifF, e_true, e_false, e_loop, e_l, e_top, e_seqN, e_seqE, e_seqR, e_blockN, e_blockR, e_blockE,
    begin_f, begin_t, end_f, e_finN, e_finX, e_finR, retV, resV, resL, outCL, outC, outL, outD, wantedV, opV, An.mid, thawV, D.plainU, prune, List.map_cons, List.map_nil, envOf, get, put, eval, evalT, nz, argsV, capsV, ofV, nbeq, nble, binV, binV.aggV, unV, intV, eqOp, isConst, natV, optV, loadV, loadC, storeV, setC, St.at_, partV, partTy, indexAddrV, fieldAddrV, sliceV, sliceV.rowSl, sliceV.strSl, bounds, cutP,
    builtinV, lenV, maxL, maxV, appendV, St.elems, roomy, rowOf, rowS, isStr, esz, tdOf, convV, buildV, fillV, partsV, okParts, fillL, D.whole, D.demoteC, D.demote, demoteL, D.global, D.flat, D.leaf, D.cells, TI.agg, TD.rowish, callOpV, moveL, CC, keepB, St.borrowL, St.borrow, D.isLsl, adoptR, adoptC, adoptCL, adoptL, adopt,
    List.toArray, Array.toList, List.length_cons, List.length_nil, List.length_map, List.length_append, List.length_replicate, List.replicate_succ, List.replicate_zero, List.replicate_one, ← List.map_take, ← List.map_drop, List.isEmpty_cons, List.isEmpty_nil, List.drop_zero, List.take_succ_cons, List.take_zero, List.take_nil, List.drop_succ_cons, List.drop_nil, Nat.zero_le, Nat.le_refl, Nat.sub_zero, List.getElem?_cons_succ, List.getElem?_cons_zero, List.getElem?_nil, List.any_cons, List.any_nil, List.all_cons, List.all_nil, List.append_nil, List.nil_append, List.cons_append, List.set_cons_zero, List.set_cons_succ,
    cond_true, cond_false, decide_true, decide_false, Bool.true_and, Bool.and_true, Bool.false_and, Bool.and_false, Bool.true_or, Bool.or_true, Bool.false_or, Bool.or_false, Bool.not_true, Bool.not_false, Bool.and_self, Bool.or_self, bT, bF, ieq, ine, decide_eq_true_eq, decide_not,
    Nat.reduceEqDiff, Nat.reduceAdd, Nat.reduceSub, Nat.reduceMul, Nat.reduceLeDiff, Nat.reduceLT, Nat.zero_add, Nat.add_zero, Option.getD_some, Option.getD_none, Option.isSome_some, Option.isSome_none, reduceIte, reduceCtorEq, and_self, and_true, true_and, not_true_eq_false, not_false_eq_true, false_imp_iff, forall_const, imp_self,
    Int.reduceNeg, Int.reduceLT, Int.reduceLE, Int.reduceGT, Int.reduceGE, Int.reduceAdd, Int.reduceSub, Int.reduceMul, Int.reduceToNat, Int.reduceEq, ne_eq, eq_self, beq_self_eq_true]
  have g1 := fun B => hL.pieces a B (by omega)
  have g2 := fun B => hL.pieces b B (by omega)
  have g3 := fun B => hL.pieces (a ++ b) B (by simp only [List.length_append]; omega)
  have g4 := fun B => hL.pieces (a ++ [46]) B (by simp only [List.length_append, List.length_cons, List.length_nil]; omega)
  have s1 : strV .add a b = some (.str (a ++ b)) := by unfold strV; simp only; rw [if_pos (by omega)]
  have s2 : strV .add a [46] = some (.str (a ++ [46])) := by unfold strV; simp only; rw [if_pos (by simp only [List.length_cons, List.length_nil]; omega)]
  have s3 := str_eq a []
  have ea : decide (a = []) = decide ((a.length : Int) = 0) := by
    apply decide_eq_decide.2
    rw [← List.length_eq_zero_iff]; omega
  rw [ea] at s3
  have x1 := pcs_length a
  have x2 := pcs_length b
  have x3 := pcs_length (a ++ b)
  have x4 := pcs_length (a ++ [46])
  simp only [List.length_append, List.length_cons, List.length_nil] at x3 x4
  generalize pcs a = pa at g1 x1
  generalize pcs b = pb at g2 x2
  generalize pcs (a ++ b) = pz at g3 x3
  generalize pcs (a ++ [46]) = pm at g4 x4
  unfold cnt at x1 x2 x3 x4
  have k1 : (pz.length : Int) ≥ (pa.length : Int) := by omega
  have k2 : (pz.length : Int) ≥ (pb.length : Int) := by omega
  have k3 : IntKind.i64.wrap ((pa.length : Int) + (pb.length : Int)) = (pa.length : Int) + (pb.length : Int) := wrapI (by omega) (by omega)
  have k4 : (pz.length : Int) ≤ (pa.length : Int) + (pb.length : Int) := by omega
  have k5 : (pm.length : Int) ≥ (pa.length : Int) := by omega
  have k6 : IntKind.i64.wrap ((pa.length : Int) + 1) = (pa.length : Int) + 1 := wrapI (by omega) (by omega)
  have k7 : (pm.length : Int) ≤ (pa.length : Int) + 1 := by omega
  have k8 : (a.length : Int).tmod 502 = ((a.length % 502 : Nat) : Int) := by rw [Int.tmod_eq_emod_of_nonneg (by omega)]; omega
  have k9 : decide ((pm.length : Int) = (pa.length : Int) + 1) = decide (((a.length % 502 : Nat) : Int) = 0) := decide_eq_decide.2 (by omega)
  have k10 : decide ((pa.length : Int) = 0) = decide ((a.length : Int) = 0) := decide_eq_decide.2 (by omega)
  simp only [fi9, Tryd.f9, an9, h1, h2, e4, g1, g2, g3, g4, s1, s2, s3, k1, k2, k3, k4, k5, k6, k7, k8, k9, k10, T3, T4, T9, T65, e_seq, e_region, e_dyn, e_dynS, stepD, accs, accP, accW, simpleOp, isAl, isExt, flipD, D.fresh1, D.row, D.plain, D.plain.plainL, St.close, St.close1, St.borrow, List.flatten_cons, List.flatten_nil, e_block, e_cond, e_ret, e_skip, e_exit, e_plain, e_guard, e_nil, e_op, e_ifT, e_ifF, e_true, e_false, e_loop, e_l, e_top, e_seqN, e_seqE, e_seqR, e_blockN, e_blockR, e_blockE,
    begin_f, begin_t, end_f, e_finN, e_finX, e_finR, retV, resV, resL, outCL, outC, outL, outD, wantedV, opV, An.mid, thawV, D.plainU, prune, List.map_cons, List.map_nil, envOf, get, put, eval, evalT, nz, argsV, capsV, ofV, nbeq, nble, binV, binV.aggV, unV, intV, eqOp, isConst, natV, optV, loadV, loadC, storeV, setC, St.at_, partV, partTy, indexAddrV, fieldAddrV, sliceV, sliceV.rowSl, sliceV.strSl, bounds, cutP,
    builtinV, lenV, maxL, maxV, appendV, St.elems, roomy, rowOf, rowS, isStr, esz, tdOf, convV, buildV, fillV, partsV, okParts, fillL, D.whole, D.demoteC, D.demote, demoteL, D.global, D.flat, D.leaf, D.cells, TI.agg, TD.rowish, callOpV, moveL, CC, keepB, St.borrowL, St.borrow, D.isLsl, adoptR, adoptC, adoptCL, adoptL, adopt,
    List.toArray, Array.toList, List.length_cons, List.length_nil, List.length_map, List.length_append, List.length_replicate, List.replicate_succ, List.replicate_zero, List.replicate_one, ← List.map_take, ← List.map_drop, List.isEmpty_cons, List.isEmpty_nil, List.drop_zero, List.take_succ_cons, List.take_zero, List.take_nil, List.drop_succ_cons, List.drop_nil, Nat.zero_le, Nat.le_refl, Nat.sub_zero, List.getElem?_cons_succ, List.getElem?_cons_zero, List.getElem?_nil, List.any_cons, List.any_nil, List.all_cons, List.all_nil, List.append_nil, List.nil_append, List.cons_append, List.set_cons_zero, List.set_cons_succ,
    cond_true, cond_false, decide_true, decide_false, Bool.true_and, Bool.and_true, Bool.false_and, Bool.and_false, Bool.true_or, Bool.or_true, Bool.false_or, Bool.or_false, Bool.not_true, Bool.not_false, Bool.and_self, Bool.or_self, bT, bF, ieq, ine, decide_eq_true_eq, decide_not,
    Nat.reduceEqDiff, Nat.reduceAdd, Nat.reduceSub, Nat.reduceMul, Nat.reduceLeDiff, Nat.reduceLT, Nat.zero_add, Nat.add_zero, Option.getD_some, Option.getD_none, Option.isSome_some, Option.isSome_none, reduceIte, reduceCtorEq, and_self, and_true, true_and, not_true_eq_false, not_false_eq_true, false_imp_iff, forall_const, imp_self,
    Int.reduceNeg, Int.reduceLT, Int.reduceLE, Int.reduceGT, Int.reduceGE, Int.reduceAdd, Int.reduceSub, Int.reduceMul, Int.reduceToNat, Int.reduceEq, ne_eq, eq_self, beq_self_eq_true]

end Go.Proofs.YtploddijjofphaaDoor.V
