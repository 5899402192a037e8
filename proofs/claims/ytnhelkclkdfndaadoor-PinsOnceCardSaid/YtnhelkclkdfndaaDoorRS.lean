/-
Layer 18: PinsOnce: its loop.
-/
import Derived.Test.YtnhelkclkdfndaaDoorRR
namespace Go.Proofs.YtnhelkclkdfndaaDoor.V
open Go Go.RowKit
set_option linter.unusedSimpArgs false
set_option linter.unusedVariables false

variable {C : Callees}

/-- The head: the round, how many there ever were, those that are there, whether there were any. -/
def st5 (ll : List (Nat × Nat)) (x : Nat × Nat × List Pn × Bool) : St := ⟨[(0, prs ll), (3, .lptr 0 0), (4, .vec 1 (seeD x.2.1) (bif x.2.2.2 then .own 0 else .exact)), (5, .vec 1 (idsD x.2.2.1) (bif x.2.2.2 then .own 1 else .exact)), (6, .int .i64 (x.1 : Nat))],
  [some [.int .u64 (x.2.1 : Nat), .vec 18 (x.2.2.1.map pnD) (bif x.2.2.2 then .own 2 else .exact)]], bif x.2.2.2 then [true, true, true] else [], []⟩
def poI (ll : List (Nat × Nat)) (x : Nat × Nat × List Pn × Bool) : Prop := x.1 ≤ ll.length ∧ x.1 ≤ 60 ∧ x.2.1 ≤ x.1 ∧ mayP x.2.1 x.2.2.1 = true ∧ WdL x.2.2.1 ∧ (x.2.2.2 = false → x.2.1 = 0 ∧ x.2.2.1 = [])

set_option maxRecDepth 20000 in
set_option maxHeartbeats 8000000 in
theorem once_open (hC : Known18 C) (ll : List (Nat × Nat)) (hll : ∀ x, x ∈ ll → x.1 < 256 ∧ x.2 < 256) (i n : Nat) (l : List Pn) (b : Bool) (h : i < ll.length) (h60 : i < 60) (hn : n ≤ i) (hm : mayP n l = true) (hw : WdL l) (hb : b = false → n = 0 ∧ l = []) (h8 : l.length < 8)
    (ht : (¬ ((((ll.getD i (0, 0)).1 : Nat) : Int)).tmod 3 = 0 ∧ ((0 : Nat) : Int) = 0) ∨ ((((ll.getD i (0, 0)).1 : Nat) : Int).tmod 3 = 0 ∧ ¬ (0 : Int) < l.length)) :
    ∃ l2, mayP (n + 1) l2 = true ∧ WdL l2 ∧ ∃ st', go T an5 C lp5_0 .top (st5 ll (i, n, l, b)) = some (.norm, st') ∧ an5.at_ (some 4) st' = st5 ll (i + 1, n + 1, l2, true) := by
  have hL := hC.toLib18F
  have hby := hll (ll.getD i (0, 0)) (by rw [List.getD_eq_getElem?_getD, List.getElem?_eq_getElem h]; exact List.getElem_mem h)
  have g0 : (i : Int) < ll.length := by omega
  have g1 := pnat i
  have g2 : (i : Int) < 60 := by omega
  have g3 : (l.length : Int) < 8 := by omega
  have e1 := pr_get h
  have w0 : IntKind.i64.wrap ((i : Int) + 1) = ((i + 1 : Nat) : Int) := by rw [wrapI (by omega) (by omega)]; rfl
  have x0 : Wds (fun _ => 0) := fun _ _ => by show (0 : Nat) < _; decide
  have c0 := c28 hL.toLib18A
  have c1 := c29 hL.toLib17 x0 (((ll.getD i (0, 0)).2 : Nat) : Int) []
  generalize ll.getD i (0, 0) = a at e1 ht hby c1
  have w1 : IntKind.u64.wrap ((a.2 : Nat) : Int) = (a.2 : Nat) := wrap_u64 (by omega) (by omega)
  have w2 : IntKind.i64.wrap ((a.2 : Nat) : Int) = (a.2 : Nat) := wrapI (by omega) (by omega)
  have hws : Wds (withN (fun _ => 0) ((a.2 : Nat) : Int)) := by
    unfold withN
    split
    · exact with_w x0 _ (by rw [Int.toNat_natCast]; omega)
    · exact x0
  generalize withN (fun _ => 0) ((a.2 : Nat) : Int) = s at c1 hws
  have ho : opE n l = 0 := by
    unfold opE
    rw [if_pos hm, if_neg (by omega)]
  have c2 : C 16 [.agg [.int .u64 (n : Nat), .vec 18 (l.map pnD) .none], .int .u64 (a.2 : Nat), .agg (nums .u64 16 s)] [] = some (.tuple [.agg [.int .u64 (n + 1 : Nat), .vec 18 ((l ++ [(⟨n + 1, a.2, s⟩ : Pn)]).map pnD) .fresh], .int .u64 (n + 1 : Nat), .nili], []) := hL.f16 _ _ _ (run16_ok hL.toLib18D n l _ _ ho [])
  have hm2 := may_app hm h8 (by omega) a.2 s
  have hw2 : WdL (l ++ [(⟨n + 1, a.2, s⟩ : Pn)]) := wd_app hw hws
  have i2 := ids_app l (⟨n + 1, a.2, s⟩ : Pn)
  have i3 := see_app n
  have l3 : (l ++ [(⟨n + 1, a.2, s⟩ : Pn)]).length = l.length + 1 := by simp
  simp only at i2
  generalize l ++ [(⟨n + 1, a.2, s⟩ : Pn)] = l2 at c2 hm2 hw2 i2 l3
  have c0 := c0 (n + 1) l2 (by omega) []
  rw [hm2, if_pos rfl, errD_zero] at c0
  have c3 := hL.f27 _ _ _ (run27 hL.toLib18E (n + 1) l2 (by omega) hw2 [])
  have hu : Wds (heldP (n + 1) l2) := heldP_w hw2
  have hmem : ∀ x, mem (heldP (n + 1) l2) x = someK l2 x l2.length := fun x => by
    unfold heldP
    rw [hm2, if_pos rfl, mem_held]
  generalize heldP (n + 1) l2 = u at c3 hu hmem
  refine ⟨l2, hm2, hw2, ?_⟩
  have r8 : (n + 1) * 8 ≤ 140737488355328 := by omega
  have r9 : (l.length + 1) * 8 ≤ 140737488355328 := by omega
  simp only [st5]
  cases b with
  | true =>
    simp only [cond_true]
    rcases ht with ⟨t, t2⟩ | ⟨t, t2⟩
    all_goals
      simp only [st5, lp5_0, subC, atC, Tryd.f5, an5, c1, c2, g0, g1, g2, g3, e1, t, t2, w1, w2, drop16, dyn_eq, ids_len, see_len, Int.toNat_natCast, sC_nil, sC_zero, sC_succ, sC_16, AL, T3, T4, T5, T22, T28, T30, T33, T42, T44, T60, T61, T62, EL, e_finWf, e_finWt, e_finMN, e_finMX, retM, meltV, tupV, D.asBox, D.row1, D.freeR, D.freeO, List.replicate_succ, stepD, accs, accP, accW, simpleOp, isAl, isExt, flipD, D.fresh1, D.row, D.plain, D.plain.plainL, St.close, St.close1, St.borrow, retV, resV, resL, outCL, outC, outL, outD, wantedV, opV, An.mid, thawV, St.settle, D.plainU, prune, envOf, get, put, eval, evalT, nz, argsV, capsV, ofV, binV, binV.aggV, unV, intV, eqOp, isConst, natV, optV, loadV, loadC, storeV, St.at_, partV, partTy, indexAddrV, fieldAddrV, sliceV, sliceV.rowSl, sliceV.strSl, bounds, cutP, builtinV, lenV, maxL, maxV, appendV, St.elems, roomy, rowOf, rowS, isStr, esz, tdOf, convV, buildV, fillV, partsV, okParts, fillL, D.whole, D.demoteC, D.demote, demoteL, D.global, D.flat, D.leaf, D.cells, TI.agg, TD.rowish, callOpV, moveL, CC, keepB, St.borrowL, St.borrow, D.isLsl, adoptR, adoptC, adoptCL, adoptL, adopt, List.toArray, Array.toList, Nat.reduceEqDiff, Nat.reduceAdd, Nat.reduceSub, Nat.reduceMul, Nat.reduceLeDiff, Nat.reduceLT, reduceIte, reduceCtorEq, forall_const, imp_self, Int.reduceNeg, Int.reduceLT, Int.reduceLE, Int.reduceGT, Int.reduceGE, Int.reduceAdd, Int.reduceSub, Int.reduceMul, Int.reduceToNat, Int.reduceEq, ne_eq, eq_self]
      generalize hr : loopC T _ C _ _ = r
      obtain ⟨x, st', rfl, hx⟩ := nest hr (loop5_1 C ll i n l l2 true (by omega) _ (by
        clear hr
        simp only [an5, ren_map, toks_map, boxes_map, st5_1, pz0, cond_true, AL, An.at_, tidyV, tidyW, tidyB, tidyT, sift, envBoxes, envToks, conToks, D.toks, D.tok1, toksL, D.boxes, D.box1, boxesL, memN, posN, renE, D.ren, D.ren1, renL, renB, St.content, St.boxOk, St.tokOk, trues, T3, T4, T5, T22, T28, T30, T33, T42, T44, T60, T61, T62, EL, e_finWf, e_finWt, e_finMN, e_finMX, retM, meltV, tupV, D.asBox, D.row1, D.freeR, D.freeO, List.replicate_succ, stepD, accs, accP, accW, simpleOp, isAl, isExt, flipD, D.fresh1, D.row, D.plain, D.plain.plainL, St.close, St.close1, St.borrow, retV, resV, resL, outCL, outC, outL, outD, wantedV, opV, An.mid, thawV, St.settle, D.plainU, prune, envOf, get, put, eval, evalT, nz, argsV, capsV, ofV, binV, binV.aggV, unV, intV, eqOp, isConst, natV, optV, loadV, loadC, storeV, setC, St.at_, partV, partTy, indexAddrV, fieldAddrV, sliceV, sliceV.rowSl, sliceV.strSl, bounds, cutP, builtinV, lenV, maxL, maxV, appendV, St.elems, roomy, rowOf, rowS, isStr, esz, tdOf, convV, buildV, fillV, partsV, okParts, fillL, D.whole, D.demoteC, D.demote, demoteL, D.global, D.flat, D.leaf, D.cells, TI.agg, TD.rowish, callOpV, moveL, CC, keepB, St.borrowL, St.borrow, D.isLsl, adoptR, adoptC, adoptCL, adoptL, adopt, List.toArray, Array.toList, Nat.reduceEqDiff, Nat.reduceAdd, Nat.reduceSub, Nat.reduceMul, Nat.reduceLeDiff, Nat.reduceLT, reduceIte, reduceCtorEq, forall_const, imp_self, Int.reduceNeg, Int.reduceLT, Int.reduceLE, Int.reduceGT, Int.reduceGE, Int.reduceAdd, Int.reduceSub, Int.reduceMul, Int.reduceToNat, Int.reduceEq, ne_eq, eq_self])) rfl
      clear hr
      obtain ⟨rfl, ρ, rfl, q0, q3, q4, q5, q6, q10, q11⟩ := hx
      simp only [st5_1, cond_true] at q4 q5 ⊢
      simp only [q0, q3, q4, q5, q6, q10, q11, c3, r8, r9, i2, i3, dyn_eq, ids_len, see_len, drop16, Int.toNat_natCast, sC_nil, sC_zero, sC_succ, sC_16, AL, T3, T4, T5, T22, T28, T30, T33, T42, T44, T60, T61, T62, EL, e_finWf, e_finWt, e_finMN, e_finMX, retM, meltV, tupV, D.asBox, D.row1, D.freeR, D.freeO, List.replicate_succ, stepD, accs, accP, accW, simpleOp, isAl, isExt, flipD, D.fresh1, D.row, D.plain, D.plain.plainL, St.close, St.close1, St.borrow, retV, resV, resL, outCL, outC, outL, outD, wantedV, opV, An.mid, thawV, St.settle, D.plainU, prune, envOf, get, put, eval, evalT, nz, argsV, capsV, ofV, binV, binV.aggV, unV, intV, eqOp, isConst, natV, optV, loadV, loadC, storeV, St.at_, partV, partTy, indexAddrV, fieldAddrV, sliceV, sliceV.rowSl, sliceV.strSl, bounds, cutP, builtinV, lenV, maxL, maxV, appendV, St.elems, roomy, rowOf, rowS, isStr, esz, tdOf, convV, buildV, fillV, partsV, okParts, fillL, D.whole, D.demoteC, D.demote, demoteL, D.global, D.flat, D.leaf, D.cells, TI.agg, TD.rowish, callOpV, moveL, CC, keepB, St.borrowL, St.borrow, D.isLsl, adoptR, adoptC, adoptCL, adoptL, adopt, List.toArray, Array.toList, Nat.reduceEqDiff, Nat.reduceAdd, Nat.reduceSub, Nat.reduceMul, Nat.reduceLeDiff, Nat.reduceLT, reduceIte, reduceCtorEq, forall_const, imp_self, Int.reduceNeg, Int.reduceLT, Int.reduceLE, Int.reduceGT, Int.reduceGE, Int.reduceAdd, Int.reduceSub, Int.reduceMul, Int.reduceToNat, Int.reduceEq, ne_eq, eq_self]
      generalize hr : loopC T _ C _ _ = r
      obtain ⟨x, st', rfl, hx⟩ := nest hr (loop5_2 hC ll i (n + 1) l2 u hu hmem (by omega) hw2 _ (by
        clear hr
        simp only [an5, ren_map, toks_map, boxes_map, st5_2, q0, q3, q6, pz0, cond_true, AL, An.at_, tidyV, tidyW, tidyB, tidyT, sift, envBoxes, envToks, conToks, D.toks, D.tok1, toksL, D.boxes, D.box1, boxesL, memN, posN, renE, D.ren, D.ren1, renL, renB, St.content, St.boxOk, St.tokOk, trues, T3, T4, T5, T22, T28, T30, T33, T42, T44, T60, T61, T62, EL, e_finWf, e_finWt, e_finMN, e_finMX, retM, meltV, tupV, D.asBox, D.row1, D.freeR, D.freeO, List.replicate_succ, stepD, accs, accP, accW, simpleOp, isAl, isExt, flipD, D.fresh1, D.row, D.plain, D.plain.plainL, St.close, St.close1, St.borrow, retV, resV, resL, outCL, outC, outL, outD, wantedV, opV, An.mid, thawV, St.settle, D.plainU, prune, envOf, get, put, eval, evalT, nz, argsV, capsV, ofV, binV, binV.aggV, unV, intV, eqOp, isConst, natV, optV, loadV, loadC, storeV, setC, St.at_, partV, partTy, indexAddrV, fieldAddrV, sliceV, sliceV.rowSl, sliceV.strSl, bounds, cutP, builtinV, lenV, maxL, maxV, appendV, St.elems, roomy, rowOf, rowS, isStr, esz, tdOf, convV, buildV, fillV, partsV, okParts, fillL, D.whole, D.demoteC, D.demote, demoteL, D.global, D.flat, D.leaf, D.cells, TI.agg, TD.rowish, callOpV, moveL, CC, keepB, St.borrowL, St.borrow, D.isLsl, adoptR, adoptC, adoptCL, adoptL, adopt, List.toArray, Array.toList, Nat.reduceEqDiff, Nat.reduceAdd, Nat.reduceSub, Nat.reduceMul, Nat.reduceLeDiff, Nat.reduceLT, reduceIte, reduceCtorEq, forall_const, imp_self, Int.reduceNeg, Int.reduceLT, Int.reduceLE, Int.reduceGT, Int.reduceGE, Int.reduceAdd, Int.reduceSub, Int.reduceMul, Int.reduceToNat, Int.reduceEq, ne_eq, eq_self])) rfl
      clear hr
      obtain ⟨rfl, ρ', rfl, p0, p3, p4, p5, p6⟩ := hx
      simp only [st5_2, p0, p3, p4, p5, p6, c0, w0, dyn_eq, ids_len, see_len, Int.toNat_natCast, sC_nil, sC_zero, sC_succ, AL, T3, T4, T5, T22, T28, T30, T33, T42, T44, T60, T61, T62, EL, e_finWf, e_finWt, e_finMN, e_finMX, retM, meltV, tupV, D.asBox, D.row1, D.freeR, D.freeO, List.replicate_succ, stepD, accs, accP, accW, simpleOp, isAl, isExt, flipD, D.fresh1, D.row, D.plain, D.plain.plainL, St.close, St.close1, St.borrow, retV, resV, resL, outCL, outC, outL, outD, wantedV, opV, An.mid, thawV, St.settle, D.plainU, prune, envOf, get, put, eval, evalT, nz, argsV, capsV, ofV, binV, binV.aggV, unV, intV, eqOp, isConst, natV, optV, loadV, loadC, storeV, St.at_, partV, partTy, indexAddrV, fieldAddrV, sliceV, sliceV.rowSl, sliceV.strSl, bounds, cutP, builtinV, lenV, maxL, maxV, appendV, St.elems, roomy, rowOf, rowS, isStr, esz, tdOf, convV, buildV, fillV, partsV, okParts, fillL, D.whole, D.demoteC, D.demote, demoteL, D.global, D.flat, D.leaf, D.cells, TI.agg, TD.rowish, callOpV, moveL, CC, keepB, St.borrowL, St.borrow, D.isLsl, adoptR, adoptC, adoptCL, adoptL, adopt, List.toArray, Array.toList, Nat.reduceEqDiff, Nat.reduceAdd, Nat.reduceSub, Nat.reduceMul, Nat.reduceLeDiff, Nat.reduceLT, reduceIte, reduceCtorEq, forall_const, imp_self, Int.reduceNeg, Int.reduceLT, Int.reduceLE, Int.reduceGT, Int.reduceGE, Int.reduceAdd, Int.reduceSub, Int.reduceMul, Int.reduceToNat, Int.reduceEq, ne_eq, eq_self]
      refine ⟨_, rfl, ?_⟩
      show an5.at_ (some 4) _ = _
      simp only [an5, ren_map, toks_map, boxes_map, p0, p3, p4, p5, p6, cond_true, AL, An.at_, tidyV, tidyW, tidyB, tidyT, sift, envBoxes, envToks, conToks, D.toks, D.tok1, toksL, D.boxes, D.box1, boxesL, memN, posN, renE, D.ren, D.ren1, renL, renB, St.content, St.boxOk, St.tokOk, trues, T3, T4, T5, T22, T28, T30, T33, T42, T44, T60, T61, T62, EL, e_finWf, e_finWt, e_finMN, e_finMX, retM, meltV, tupV, D.asBox, D.row1, D.freeR, D.freeO, List.replicate_succ, stepD, accs, accP, accW, simpleOp, isAl, isExt, flipD, D.fresh1, D.row, D.plain, D.plain.plainL, St.close, St.close1, St.borrow, retV, resV, resL, outCL, outC, outL, outD, wantedV, opV, An.mid, thawV, St.settle, D.plainU, prune, envOf, get, put, eval, evalT, nz, argsV, capsV, ofV, binV, binV.aggV, unV, intV, eqOp, isConst, natV, optV, loadV, loadC, storeV, setC, St.at_, partV, partTy, indexAddrV, fieldAddrV, sliceV, sliceV.rowSl, sliceV.strSl, bounds, cutP, builtinV, lenV, maxL, maxV, appendV, St.elems, roomy, rowOf, rowS, isStr, esz, tdOf, convV, buildV, fillV, partsV, okParts, fillL, D.whole, D.demoteC, D.demote, demoteL, D.global, D.flat, D.leaf, D.cells, TI.agg, TD.rowish, callOpV, moveL, CC, keepB, St.borrowL, St.borrow, D.isLsl, adoptR, adoptC, adoptCL, adoptL, adopt, List.toArray, Array.toList, Nat.reduceEqDiff, Nat.reduceAdd, Nat.reduceSub, Nat.reduceMul, Nat.reduceLeDiff, Nat.reduceLT, reduceIte, reduceCtorEq, forall_const, imp_self, Int.reduceNeg, Int.reduceLT, Int.reduceLE, Int.reduceGT, Int.reduceGE, Int.reduceAdd, Int.reduceSub, Int.reduceMul, Int.reduceToNat, Int.reduceEq, ne_eq, eq_self]
  | false =>
    simp only [cond_false]
    rcases ht with ⟨t, t2⟩ | ⟨t, t2⟩
    all_goals
      simp only [st5, lp5_0, subC, atC, Tryd.f5, an5, c1, c2, g0, g1, g2, g3, e1, t, t2, w1, w2, drop16, dyn_eq, ids_len, see_len, Int.toNat_natCast, sC_nil, sC_zero, sC_succ, sC_16, AL, T3, T4, T5, T22, T28, T30, T33, T42, T44, T60, T61, T62, EL, e_finWf, e_finWt, e_finMN, e_finMX, retM, meltV, tupV, D.asBox, D.row1, D.freeR, D.freeO, List.replicate_succ, stepD, accs, accP, accW, simpleOp, isAl, isExt, flipD, D.fresh1, D.row, D.plain, D.plain.plainL, St.close, St.close1, St.borrow, retV, resV, resL, outCL, outC, outL, outD, wantedV, opV, An.mid, thawV, St.settle, D.plainU, prune, envOf, get, put, eval, evalT, nz, argsV, capsV, ofV, binV, binV.aggV, unV, intV, eqOp, isConst, natV, optV, loadV, loadC, storeV, St.at_, partV, partTy, indexAddrV, fieldAddrV, sliceV, sliceV.rowSl, sliceV.strSl, bounds, cutP, builtinV, lenV, maxL, maxV, appendV, St.elems, roomy, rowOf, rowS, isStr, esz, tdOf, convV, buildV, fillV, partsV, okParts, fillL, D.whole, D.demoteC, D.demote, demoteL, D.global, D.flat, D.leaf, D.cells, TI.agg, TD.rowish, callOpV, moveL, CC, keepB, St.borrowL, St.borrow, D.isLsl, adoptR, adoptC, adoptCL, adoptL, adopt, List.toArray, Array.toList, Nat.reduceEqDiff, Nat.reduceAdd, Nat.reduceSub, Nat.reduceMul, Nat.reduceLeDiff, Nat.reduceLT, reduceIte, reduceCtorEq, forall_const, imp_self, Int.reduceNeg, Int.reduceLT, Int.reduceLE, Int.reduceGT, Int.reduceGE, Int.reduceAdd, Int.reduceSub, Int.reduceMul, Int.reduceToNat, Int.reduceEq, ne_eq, eq_self]
      generalize hr : loopC T _ C _ _ = r
      obtain ⟨x, st', rfl, hx⟩ := nest hr (loop5_1 C ll i n l l2 false (by omega) _ (by
        clear hr
        simp only [an5, ren_map, toks_map, boxes_map, st5_1, pz0, cond_true, cond_false, AL, An.at_, tidyV, tidyW, tidyB, tidyT, sift, envBoxes, envToks, conToks, D.toks, D.tok1, toksL, D.boxes, D.box1, boxesL, memN, posN, renE, D.ren, D.ren1, renL, renB, St.content, St.boxOk, St.tokOk, trues, T3, T4, T5, T22, T28, T30, T33, T42, T44, T60, T61, T62, EL, e_finWf, e_finWt, e_finMN, e_finMX, retM, meltV, tupV, D.asBox, D.row1, D.freeR, D.freeO, List.replicate_succ, stepD, accs, accP, accW, simpleOp, isAl, isExt, flipD, D.fresh1, D.row, D.plain, D.plain.plainL, St.close, St.close1, St.borrow, retV, resV, resL, outCL, outC, outL, outD, wantedV, opV, An.mid, thawV, St.settle, D.plainU, prune, envOf, get, put, eval, evalT, nz, argsV, capsV, ofV, binV, binV.aggV, unV, intV, eqOp, isConst, natV, optV, loadV, loadC, storeV, setC, St.at_, partV, partTy, indexAddrV, fieldAddrV, sliceV, sliceV.rowSl, sliceV.strSl, bounds, cutP, builtinV, lenV, maxL, maxV, appendV, St.elems, roomy, rowOf, rowS, isStr, esz, tdOf, convV, buildV, fillV, partsV, okParts, fillL, D.whole, D.demoteC, D.demote, demoteL, D.global, D.flat, D.leaf, D.cells, TI.agg, TD.rowish, callOpV, moveL, CC, keepB, St.borrowL, St.borrow, D.isLsl, adoptR, adoptC, adoptCL, adoptL, adopt, List.toArray, Array.toList, Nat.reduceEqDiff, Nat.reduceAdd, Nat.reduceSub, Nat.reduceMul, Nat.reduceLeDiff, Nat.reduceLT, reduceIte, reduceCtorEq, forall_const, imp_self, Int.reduceNeg, Int.reduceLT, Int.reduceLE, Int.reduceGT, Int.reduceGE, Int.reduceAdd, Int.reduceSub, Int.reduceMul, Int.reduceToNat, Int.reduceEq, ne_eq, eq_self])) rfl
      clear hr
      obtain ⟨rfl, ρ, rfl, q0, q3, q4, q5, q6, q10, q11⟩ := hx
      simp only [st5_1, cond_true, cond_false] at q4 q5 ⊢
      simp only [q0, q3, q4, q5, q6, q10, q11, c3, r8, r9, i2, i3, dyn_eq, ids_len, see_len, drop16, Int.toNat_natCast, sC_nil, sC_zero, sC_succ, sC_16, AL, T3, T4, T5, T22, T28, T30, T33, T42, T44, T60, T61, T62, EL, e_finWf, e_finWt, e_finMN, e_finMX, retM, meltV, tupV, D.asBox, D.row1, D.freeR, D.freeO, List.replicate_succ, stepD, accs, accP, accW, simpleOp, isAl, isExt, flipD, D.fresh1, D.row, D.plain, D.plain.plainL, St.close, St.close1, St.borrow, retV, resV, resL, outCL, outC, outL, outD, wantedV, opV, An.mid, thawV, St.settle, D.plainU, prune, envOf, get, put, eval, evalT, nz, argsV, capsV, ofV, binV, binV.aggV, unV, intV, eqOp, isConst, natV, optV, loadV, loadC, storeV, St.at_, partV, partTy, indexAddrV, fieldAddrV, sliceV, sliceV.rowSl, sliceV.strSl, bounds, cutP, builtinV, lenV, maxL, maxV, appendV, St.elems, roomy, rowOf, rowS, isStr, esz, tdOf, convV, buildV, fillV, partsV, okParts, fillL, D.whole, D.demoteC, D.demote, demoteL, D.global, D.flat, D.leaf, D.cells, TI.agg, TD.rowish, callOpV, moveL, CC, keepB, St.borrowL, St.borrow, D.isLsl, adoptR, adoptC, adoptCL, adoptL, adopt, List.toArray, Array.toList, Nat.reduceEqDiff, Nat.reduceAdd, Nat.reduceSub, Nat.reduceMul, Nat.reduceLeDiff, Nat.reduceLT, reduceIte, reduceCtorEq, forall_const, imp_self, Int.reduceNeg, Int.reduceLT, Int.reduceLE, Int.reduceGT, Int.reduceGE, Int.reduceAdd, Int.reduceSub, Int.reduceMul, Int.reduceToNat, Int.reduceEq, ne_eq, eq_self]
      generalize hr : loopC T _ C _ _ = r
      obtain ⟨x, st', rfl, hx⟩ := nest hr (loop5_2 hC ll i (n + 1) l2 u hu hmem (by omega) hw2 _ (by
        clear hr
        simp only [an5, ren_map, toks_map, boxes_map, st5_2, q0, q3, q6, pz0, cond_true, cond_false, AL, An.at_, tidyV, tidyW, tidyB, tidyT, sift, envBoxes, envToks, conToks, D.toks, D.tok1, toksL, D.boxes, D.box1, boxesL, memN, posN, renE, D.ren, D.ren1, renL, renB, St.content, St.boxOk, St.tokOk, trues, T3, T4, T5, T22, T28, T30, T33, T42, T44, T60, T61, T62, EL, e_finWf, e_finWt, e_finMN, e_finMX, retM, meltV, tupV, D.asBox, D.row1, D.freeR, D.freeO, List.replicate_succ, stepD, accs, accP, accW, simpleOp, isAl, isExt, flipD, D.fresh1, D.row, D.plain, D.plain.plainL, St.close, St.close1, St.borrow, retV, resV, resL, outCL, outC, outL, outD, wantedV, opV, An.mid, thawV, St.settle, D.plainU, prune, envOf, get, put, eval, evalT, nz, argsV, capsV, ofV, binV, binV.aggV, unV, intV, eqOp, isConst, natV, optV, loadV, loadC, storeV, setC, St.at_, partV, partTy, indexAddrV, fieldAddrV, sliceV, sliceV.rowSl, sliceV.strSl, bounds, cutP, builtinV, lenV, maxL, maxV, appendV, St.elems, roomy, rowOf, rowS, isStr, esz, tdOf, convV, buildV, fillV, partsV, okParts, fillL, D.whole, D.demoteC, D.demote, demoteL, D.global, D.flat, D.leaf, D.cells, TI.agg, TD.rowish, callOpV, moveL, CC, keepB, St.borrowL, St.borrow, D.isLsl, adoptR, adoptC, adoptCL, adoptL, adopt, List.toArray, Array.toList, Nat.reduceEqDiff, Nat.reduceAdd, Nat.reduceSub, Nat.reduceMul, Nat.reduceLeDiff, Nat.reduceLT, reduceIte, reduceCtorEq, forall_const, imp_self, Int.reduceNeg, Int.reduceLT, Int.reduceLE, Int.reduceGT, Int.reduceGE, Int.reduceAdd, Int.reduceSub, Int.reduceMul, Int.reduceToNat, Int.reduceEq, ne_eq, eq_self])) rfl
      clear hr
      obtain ⟨rfl, ρ', rfl, p0, p3, p4, p5, p6⟩ := hx
      simp only [st5_2, p0, p3, p4, p5, p6, c0, w0, dyn_eq, ids_len, see_len, Int.toNat_natCast, sC_nil, sC_zero, sC_succ, AL, T3, T4, T5, T22, T28, T30, T33, T42, T44, T60, T61, T62, EL, e_finWf, e_finWt, e_finMN, e_finMX, retM, meltV, tupV, D.asBox, D.row1, D.freeR, D.freeO, List.replicate_succ, stepD, accs, accP, accW, simpleOp, isAl, isExt, flipD, D.fresh1, D.row, D.plain, D.plain.plainL, St.close, St.close1, St.borrow, retV, resV, resL, outCL, outC, outL, outD, wantedV, opV, An.mid, thawV, St.settle, D.plainU, prune, envOf, get, put, eval, evalT, nz, argsV, capsV, ofV, binV, binV.aggV, unV, intV, eqOp, isConst, natV, optV, loadV, loadC, storeV, St.at_, partV, partTy, indexAddrV, fieldAddrV, sliceV, sliceV.rowSl, sliceV.strSl, bounds, cutP, builtinV, lenV, maxL, maxV, appendV, St.elems, roomy, rowOf, rowS, isStr, esz, tdOf, convV, buildV, fillV, partsV, okParts, fillL, D.whole, D.demoteC, D.demote, demoteL, D.global, D.flat, D.leaf, D.cells, TI.agg, TD.rowish, callOpV, moveL, CC, keepB, St.borrowL, St.borrow, D.isLsl, adoptR, adoptC, adoptCL, adoptL, adopt, List.toArray, Array.toList, Nat.reduceEqDiff, Nat.reduceAdd, Nat.reduceSub, Nat.reduceMul, Nat.reduceLeDiff, Nat.reduceLT, reduceIte, reduceCtorEq, forall_const, imp_self, Int.reduceNeg, Int.reduceLT, Int.reduceLE, Int.reduceGT, Int.reduceGE, Int.reduceAdd, Int.reduceSub, Int.reduceMul, Int.reduceToNat, Int.reduceEq, ne_eq, eq_self]
      refine ⟨_, rfl, ?_⟩
      show an5.at_ (some 4) _ = _
      simp only [an5, ren_map, toks_map, boxes_map, p0, p3, p4, p5, p6, cond_true, cond_false, AL, An.at_, tidyV, tidyW, tidyB, tidyT, sift, envBoxes, envToks, conToks, D.toks, D.tok1, toksL, D.boxes, D.box1, boxesL, memN, posN, renE, D.ren, D.ren1, renL, renB, St.content, St.boxOk, St.tokOk, trues, T3, T4, T5, T22, T28, T30, T33, T42, T44, T60, T61, T62, EL, e_finWf, e_finWt, e_finMN, e_finMX, retM, meltV, tupV, D.asBox, D.row1, D.freeR, D.freeO, List.replicate_succ, stepD, accs, accP, accW, simpleOp, isAl, isExt, flipD, D.fresh1, D.row, D.plain, D.plain.plainL, St.close, St.close1, St.borrow, retV, resV, resL, outCL, outC, outL, outD, wantedV, opV, An.mid, thawV, St.settle, D.plainU, prune, envOf, get, put, eval, evalT, nz, argsV, capsV, ofV, binV, binV.aggV, unV, intV, eqOp, isConst, natV, optV, loadV, loadC, storeV, setC, St.at_, partV, partTy, indexAddrV, fieldAddrV, sliceV, sliceV.rowSl, sliceV.strSl, bounds, cutP, builtinV, lenV, maxL, maxV, appendV, St.elems, roomy, rowOf, rowS, isStr, esz, tdOf, convV, buildV, fillV, partsV, okParts, fillL, D.whole, D.demoteC, D.demote, demoteL, D.global, D.flat, D.leaf, D.cells, TI.agg, TD.rowish, callOpV, moveL, CC, keepB, St.borrowL, St.borrow, D.isLsl, adoptR, adoptC, adoptCL, adoptL, adopt, List.toArray, Array.toList, Nat.reduceEqDiff, Nat.reduceAdd, Nat.reduceSub, Nat.reduceMul, Nat.reduceLeDiff, Nat.reduceLT, reduceIte, reduceCtorEq, forall_const, imp_self, Int.reduceNeg, Int.reduceLT, Int.reduceLE, Int.reduceGT, Int.reduceGE, Int.reduceAdd, Int.reduceSub, Int.reduceMul, Int.reduceToNat, Int.reduceEq, ne_eq, eq_self]

set_option maxRecDepth 20000 in
set_option maxHeartbeats 8000000 in
theorem once_full (hC : Known18 C) (ll : List (Nat × Nat)) (hll : ∀ x, x ∈ ll → x.1 < 256 ∧ x.2 < 256) (i n : Nat) (l : List Pn) (h : i < ll.length) (h60 : i < 60) (hn : n ≤ i) (hm : mayP n l = true) (hw : WdL l) (h8 : l.length = 8)
    (t : ¬ ((((ll.getD i (0, 0)).1 : Nat) : Int)).tmod 3 = 0) :
    ∃ st', go T an5 C lp5_0 .top (st5 ll (i, n, l, true)) = some (.norm, st') ∧ an5.at_ (some 4) st' = st5 ll (i + 1, n, l, true) := by
  have hL := hC.toLib18F
  have hby := hll (ll.getD i (0, 0)) (by rw [List.getD_eq_getElem?_getD, List.getElem?_eq_getElem h]; exact List.getElem_mem h)
  have g0 : (i : Int) < ll.length := by omega
  have g1 := pnat i
  have g2 : (i : Int) < 60 := by omega
  have g3 : ¬ (l.length : Int) < 8 := by omega
  have e1 := pr_get h
  have w0 : IntKind.i64.wrap ((i : Int) + 1) = ((i + 1 : Nat) : Int) := by rw [wrapI (by omega) (by omega)]; rfl
  have x0 : Wds (fun _ => 0) := fun _ _ => by show (0 : Nat) < _; decide
  have c0 := c28 hL.toLib18A n l (by omega) []
  rw [hm, if_pos rfl, errD_zero] at c0
  have c1 := c29 hL.toLib17 x0 (((ll.getD i (0, 0)).2 : Nat) : Int) []
  generalize ll.getD i (0, 0) = a at e1 t hby c1
  have w1 : IntKind.u64.wrap ((a.2 : Nat) : Int) = (a.2 : Nat) := wrap_u64 (by omega) (by omega)
  have w2 : IntKind.i64.wrap ((a.2 : Nat) : Int) = (a.2 : Nat) := wrapI (by omega) (by omega)
  generalize withN (fun _ => 0) ((a.2 : Nat) : Int) = s at c1
  have ho : opE n l = 7 := by
    unfold opE
    rw [if_pos hm, if_pos (.inl h8)]
  have c2 : C 16 [.agg [.int .u64 (n : Nat), .vec 18 (l.map pnD) .none], .int .u64 (a.2 : Nat), .agg (nums .u64 16 s)] [] = some (.tuple [.agg [.int .u64 0, .vec 18 [] .fresh], .int .u64 0, .iface 163 (.int .i64 7)], []) := by
    have := hL.f16 _ _ _ (run16_err hL.toLib18D n l (by omega) a.2 s (by rw [ho]; decide) [])
    rw [ho, errD_pos (by decide)] at this
    exact this
  have c3 := hL.f27 _ _ _ (run27 hL.toLib18E n l (by omega) hw [])
  have hu : Wds (heldP n l) := heldP_w hw
  have hmem : ∀ x, mem (heldP n l) x = someK l x l.length := fun x => by
    unfold heldP
    rw [hm, if_pos rfl, mem_held]
  generalize heldP n l = u at c3 hu hmem
  simp only [st5, cond_true]
  simp only [st5, lp5_0, subC, atC, Tryd.f5, an5, c1, c2, c3, g0, g1, g2, g3, e1, t, w1, w2, drop16, dyn_eq, ids_len, see_len, Int.toNat_natCast, sC_nil, sC_zero, sC_succ, sC_16, AL, T3, T4, T5, T22, T28, T30, T33, T42, T44, T60, T61, T62, EL, e_finWf, e_finWt, e_finMN, e_finMX, retM, meltV, tupV, D.asBox, D.row1, D.freeR, D.freeO, List.replicate_succ, stepD, accs, accP, accW, simpleOp, isAl, isExt, flipD, D.fresh1, D.row, D.plain, D.plain.plainL, St.close, St.close1, St.borrow, retV, resV, resL, outCL, outC, outL, outD, wantedV, opV, An.mid, thawV, St.settle, D.plainU, prune, envOf, get, put, eval, evalT, nz, argsV, capsV, ofV, binV, binV.aggV, unV, intV, eqOp, isConst, natV, optV, loadV, loadC, storeV, St.at_, partV, partTy, indexAddrV, fieldAddrV, sliceV, sliceV.rowSl, sliceV.strSl, bounds, cutP, builtinV, lenV, maxL, maxV, appendV, St.elems, roomy, rowOf, rowS, isStr, esz, tdOf, convV, buildV, fillV, partsV, okParts, fillL, D.whole, D.demoteC, D.demote, demoteL, D.global, D.flat, D.leaf, D.cells, TI.agg, TD.rowish, callOpV, moveL, CC, keepB, St.borrowL, St.borrow, D.isLsl, adoptR, adoptC, adoptCL, adoptL, adopt, List.toArray, Array.toList, Nat.reduceEqDiff, Nat.reduceAdd, Nat.reduceSub, Nat.reduceMul, Nat.reduceLeDiff, Nat.reduceLT, reduceIte, reduceCtorEq, forall_const, imp_self, Int.reduceNeg, Int.reduceLT, Int.reduceLE, Int.reduceGT, Int.reduceGE, Int.reduceAdd, Int.reduceSub, Int.reduceMul, Int.reduceToNat, Int.reduceEq, ne_eq, eq_self]
  generalize hr : loopC T _ C _ _ = r
  obtain ⟨x, st', rfl, hx⟩ := nest hr (loop5_2 hC ll i n l u hu hmem (by omega) hw _ (by
    clear hr
    simp only [an5, ren_map, toks_map, boxes_map, st5_2, pz0, cond_true, AL, An.at_, tidyV, tidyW, tidyB, tidyT, sift, envBoxes, envToks, conToks, D.toks, D.tok1, toksL, D.boxes, D.box1, boxesL, memN, posN, renE, D.ren, D.ren1, renL, renB, St.content, St.boxOk, St.tokOk, trues, T3, T4, T5, T22, T28, T30, T33, T42, T44, T60, T61, T62, EL, e_finWf, e_finWt, e_finMN, e_finMX, retM, meltV, tupV, D.asBox, D.row1, D.freeR, D.freeO, List.replicate_succ, stepD, accs, accP, accW, simpleOp, isAl, isExt, flipD, D.fresh1, D.row, D.plain, D.plain.plainL, St.close, St.close1, St.borrow, retV, resV, resL, outCL, outC, outL, outD, wantedV, opV, An.mid, thawV, St.settle, D.plainU, prune, envOf, get, put, eval, evalT, nz, argsV, capsV, ofV, binV, binV.aggV, unV, intV, eqOp, isConst, natV, optV, loadV, loadC, storeV, setC, St.at_, partV, partTy, indexAddrV, fieldAddrV, sliceV, sliceV.rowSl, sliceV.strSl, bounds, cutP, builtinV, lenV, maxL, maxV, appendV, St.elems, roomy, rowOf, rowS, isStr, esz, tdOf, convV, buildV, fillV, partsV, okParts, fillL, D.whole, D.demoteC, D.demote, demoteL, D.global, D.flat, D.leaf, D.cells, TI.agg, TD.rowish, callOpV, moveL, CC, keepB, St.borrowL, St.borrow, D.isLsl, adoptR, adoptC, adoptCL, adoptL, adopt, List.toArray, Array.toList, Nat.reduceEqDiff, Nat.reduceAdd, Nat.reduceSub, Nat.reduceMul, Nat.reduceLeDiff, Nat.reduceLT, reduceIte, reduceCtorEq, forall_const, imp_self, Int.reduceNeg, Int.reduceLT, Int.reduceLE, Int.reduceGT, Int.reduceGE, Int.reduceAdd, Int.reduceSub, Int.reduceMul, Int.reduceToNat, Int.reduceEq, ne_eq, eq_self])) rfl
  clear hr
  obtain ⟨rfl, ρ', rfl, p0, p3, p4, p5, p6⟩ := hx
  simp only [st5_2, p0, p3, p4, p5, p6, c0, w0, dyn_eq, ids_len, see_len, Int.toNat_natCast, sC_nil, sC_zero, sC_succ, AL, T3, T4, T5, T22, T28, T30, T33, T42, T44, T60, T61, T62, EL, e_finWf, e_finWt, e_finMN, e_finMX, retM, meltV, tupV, D.asBox, D.row1, D.freeR, D.freeO, List.replicate_succ, stepD, accs, accP, accW, simpleOp, isAl, isExt, flipD, D.fresh1, D.row, D.plain, D.plain.plainL, St.close, St.close1, St.borrow, retV, resV, resL, outCL, outC, outL, outD, wantedV, opV, An.mid, thawV, St.settle, D.plainU, prune, envOf, get, put, eval, evalT, nz, argsV, capsV, ofV, binV, binV.aggV, unV, intV, eqOp, isConst, natV, optV, loadV, loadC, storeV, St.at_, partV, partTy, indexAddrV, fieldAddrV, sliceV, sliceV.rowSl, sliceV.strSl, bounds, cutP, builtinV, lenV, maxL, maxV, appendV, St.elems, roomy, rowOf, rowS, isStr, esz, tdOf, convV, buildV, fillV, partsV, okParts, fillL, D.whole, D.demoteC, D.demote, demoteL, D.global, D.flat, D.leaf, D.cells, TI.agg, TD.rowish, callOpV, moveL, CC, keepB, St.borrowL, St.borrow, D.isLsl, adoptR, adoptC, adoptCL, adoptL, adopt, List.toArray, Array.toList, Nat.reduceEqDiff, Nat.reduceAdd, Nat.reduceSub, Nat.reduceMul, Nat.reduceLeDiff, Nat.reduceLT, reduceIte, reduceCtorEq, forall_const, imp_self, Int.reduceNeg, Int.reduceLT, Int.reduceLE, Int.reduceGT, Int.reduceGE, Int.reduceAdd, Int.reduceSub, Int.reduceMul, Int.reduceToNat, Int.reduceEq, ne_eq, eq_self]
  refine ⟨_, rfl, ?_⟩
  show an5.at_ (some 4) _ = _
  simp only [an5, ren_map, toks_map, boxes_map, p0, p3, p4, p5, p6, cond_true, AL, An.at_, tidyV, tidyW, tidyB, tidyT, sift, envBoxes, envToks, conToks, D.toks, D.tok1, toksL, D.boxes, D.box1, boxesL, memN, posN, renE, D.ren, D.ren1, renL, renB, St.content, St.boxOk, St.tokOk, trues, T3, T4, T5, T22, T28, T30, T33, T42, T44, T60, T61, T62, EL, e_finWf, e_finWt, e_finMN, e_finMX, retM, meltV, tupV, D.asBox, D.row1, D.freeR, D.freeO, List.replicate_succ, stepD, accs, accP, accW, simpleOp, isAl, isExt, flipD, D.fresh1, D.row, D.plain, D.plain.plainL, St.close, St.close1, St.borrow, retV, resV, resL, outCL, outC, outL, outD, wantedV, opV, An.mid, thawV, St.settle, D.plainU, prune, envOf, get, put, eval, evalT, nz, argsV, capsV, ofV, binV, binV.aggV, unV, intV, eqOp, isConst, natV, optV, loadV, loadC, storeV, setC, St.at_, partV, partTy, indexAddrV, fieldAddrV, sliceV, sliceV.rowSl, sliceV.strSl, bounds, cutP, builtinV, lenV, maxL, maxV, appendV, St.elems, roomy, rowOf, rowS, isStr, esz, tdOf, convV, buildV, fillV, partsV, okParts, fillL, D.whole, D.demoteC, D.demote, demoteL, D.global, D.flat, D.leaf, D.cells, TI.agg, TD.rowish, callOpV, moveL, CC, keepB, St.borrowL, St.borrow, D.isLsl, adoptR, adoptC, adoptCL, adoptL, adopt, List.toArray, Array.toList, Nat.reduceEqDiff, Nat.reduceAdd, Nat.reduceSub, Nat.reduceMul, Nat.reduceLeDiff, Nat.reduceLT, reduceIte, reduceCtorEq, forall_const, imp_self, Int.reduceNeg, Int.reduceLT, Int.reduceLE, Int.reduceGT, Int.reduceGE, Int.reduceAdd, Int.reduceSub, Int.reduceMul, Int.reduceToNat, Int.reduceEq, ne_eq, eq_self]

theorem tmod_nat (a b : Nat) : ((a : Nat) : Int).tmod (b : Nat) = ((a % b : Nat) : Int) := by
  rw [Int.tmod_eq_emod_of_nonneg (Int.natCast_nonneg a)]; rfl

set_option maxRecDepth 20000 in
set_option maxHeartbeats 8000000 in
theorem once_close (hC : Known18 C) (ll : List (Nat × Nat)) (hll : ∀ x, x ∈ ll → x.1 < 256 ∧ x.2 < 256) (i n : Nat) (l : List Pn) (h : i < ll.length) (h60 : i < 60) (hn : n ≤ i) (hm : mayP n l = true) (hw : WdL l) (h0 : 0 < l.length)
    (t : ((((ll.getD i (0, 0)).1 : Nat) : Int)).tmod 3 = 0) :
    ∃ l2, mayP n l2 = true ∧ WdL l2 ∧ ∃ st', go T an5 C lp5_0 .top (st5 ll (i, n, l, true)) = some (.norm, st') ∧ an5.at_ (some 4) st' = st5 ll (i + 1, n, l2, true) := by
  have hL := hC.toLib18F
  obtain ⟨_, h8, _, _⟩ := may_sort hm
  have hby := hll (ll.getD i (0, 0)) (by rw [List.getD_eq_getElem?_getD, List.getElem?_eq_getElem h]; exact List.getElem_mem h)
  have g0 : (i : Int) < ll.length := by omega
  have g1 := pnat i
  have g2 : (i : Int) < 60 := by omega
  have g3 : (0 : Int) < l.length := by omega
  have g4 : ¬ (l.length : Int) = 0 := by omega
  have e1 := pr_get h
  have w0 : IntKind.i64.wrap ((i : Int) + 1) = ((i + 1 : Nat) : Int) := by rw [wrapI (by omega) (by omega)]; rfl
  generalize ll.getD i (0, 0) = a at e1 t hby
  have w2 : IntKind.i64.wrap ((a.2 : Nat) : Int) = (a.2 : Nat) := wrapI (by omega) (by omega)
  have t1 := tmod_nat a.2 l.length
  have hk : a.2 % l.length < l.length := Nat.mod_lt _ h0
  generalize a.2 % l.length = k at t1 hk
  have w3 : IntKind.i64.wrap ((k : Nat) : Int) = (k : Nat) := wrapI (by omega) (by omega)
  have w4 : IntKind.i64.wrap ((k : Int) + 1) = ((k + 1 : Nat) : Int) := by rw [wrapI (by omega) (by omega)]; rfl
  have k0 := pnat k
  have k1 : (k : Int) < l.length := by omega
  have k2 : (k : Int) ≤ l.length := by omega
  have k3 : ((k + 1 : Nat) : Int) ≤ l.length := by omega
  have k4 := pnat (k + 1)
  have k5 : k ≤ l.length := by omega
  have k6 : k + 1 ≤ l.length := by omega
  have e2 := ids_get hk
  have c2 := hC.clo_hit n l (idP l k) k hm ⟨hk, rfl⟩
  have hm2 := may_cut hm hk
  have hw2 : WdL (cutL l k) := wd_cut hw
  have i2 := ids_cut l k
  have l3 := cut_len hk
  generalize cutL l k = l2 at c2 hm2 hw2 i2 l3
  have c0 := c28 hL.toLib18A n l2 (by omega) []
  rw [hm2, if_pos rfl, errD_zero] at c0
  have c3 := hL.f27 _ _ _ (run27 hL.toLib18E n l2 (by omega) hw2 [])
  have hu : Wds (heldP n l2) := heldP_w hw2
  have hmem : ∀ x, mem (heldP n l2) x = someK l2 x l2.length := fun x => by
    unfold heldP
    rw [hm2, if_pos rfl, mem_held]
  generalize heldP n l2 = u at c3 hu hmem
  refine ⟨l2, hm2, hw2, ?_⟩
  have l4 : (List.take k (idsD l)).length = k := by rw [List.length_take, ids_len]; omega
  have l6 : List.take l.length (idsD l) = idsD l := List.take_of_length_le (by rw [ids_len]; exact Nat.le_refl _)
  have l5 : (List.drop (k + 1) (idsD l)).length = l.length - (k + 1) := by rw [List.length_drop, ids_len]
  have r8 : k * 8 ≤ 140737488355328 := by omega
  have r9 : (k + (l.length - (k + 1))) * 8 ≤ 140737488355328 := by omega
  simp only [st5, cond_true]
  simp only [st5, lp5_0, subC, atC, Tryd.f5, an5, c2, c3, g0, g1, g2, g3, g4, e1, e2, t, t1, w2, w3, w4, k0, k1, k2, k3, k4, k5, k6, l4, l5, l6, r8, r9, i2, drop16, dyn_eq, ids_len, see_len, Int.toNat_natCast, sC_nil, sC_zero, sC_succ, sC_16, AL, T3, T4, T5, T22, T28, T30, T33, T42, T44, T60, T61, T62, EL, e_finWf, e_finWt, e_finMN, e_finMX, retM, meltV, tupV, D.asBox, D.row1, D.freeR, D.freeO, List.replicate_succ, stepD, accs, accP, accW, simpleOp, isAl, isExt, flipD, D.fresh1, D.row, D.plain, D.plain.plainL, St.close, St.close1, St.borrow, retV, resV, resL, outCL, outC, outL, outD, wantedV, opV, An.mid, thawV, St.settle, D.plainU, prune, envOf, get, put, eval, evalT, nz, argsV, capsV, ofV, binV, binV.aggV, unV, intV, eqOp, isConst, natV, optV, loadV, loadC, storeV, St.at_, partV, partTy, indexAddrV, fieldAddrV, sliceV, sliceV.rowSl, sliceV.strSl, bounds, cutP, builtinV, lenV, maxL, maxV, appendV, St.elems, roomy, rowOf, rowS, isStr, esz, tdOf, convV, buildV, fillV, partsV, okParts, fillL, D.whole, D.demoteC, D.demote, demoteL, D.global, D.flat, D.leaf, D.cells, TI.agg, TD.rowish, callOpV, moveL, CC, keepB, St.borrowL, St.borrow, D.isLsl, adoptR, adoptC, adoptCL, adoptL, adopt, List.toArray, Array.toList, Nat.reduceEqDiff, Nat.reduceAdd, Nat.reduceSub, Nat.reduceMul, Nat.reduceLeDiff, Nat.reduceLT, reduceIte, reduceCtorEq, forall_const, imp_self, Int.reduceNeg, Int.reduceLT, Int.reduceLE, Int.reduceGT, Int.reduceGE, Int.reduceAdd, Int.reduceSub, Int.reduceMul, Int.reduceToNat, Int.reduceEq, ne_eq, eq_self]
  generalize hr : loopC T _ C _ _ = r
  obtain ⟨x, st', rfl, hx⟩ := nest hr (loop5_2 hC ll i n l2 u hu hmem (by omega) hw2 _ (by
    clear hr
    simp only [an5, ren_map, toks_map, boxes_map, st5_2, pz0, cond_true, AL, An.at_, tidyV, tidyW, tidyB, tidyT, sift, envBoxes, envToks, conToks, D.toks, D.tok1, toksL, D.boxes, D.box1, boxesL, memN, posN, renE, D.ren, D.ren1, renL, renB, St.content, St.boxOk, St.tokOk, trues, T3, T4, T5, T22, T28, T30, T33, T42, T44, T60, T61, T62, EL, e_finWf, e_finWt, e_finMN, e_finMX, retM, meltV, tupV, D.asBox, D.row1, D.freeR, D.freeO, List.replicate_succ, stepD, accs, accP, accW, simpleOp, isAl, isExt, flipD, D.fresh1, D.row, D.plain, D.plain.plainL, St.close, St.close1, St.borrow, retV, resV, resL, outCL, outC, outL, outD, wantedV, opV, An.mid, thawV, St.settle, D.plainU, prune, envOf, get, put, eval, evalT, nz, argsV, capsV, ofV, binV, binV.aggV, unV, intV, eqOp, isConst, natV, optV, loadV, loadC, storeV, setC, St.at_, partV, partTy, indexAddrV, fieldAddrV, sliceV, sliceV.rowSl, sliceV.strSl, bounds, cutP, builtinV, lenV, maxL, maxV, appendV, St.elems, roomy, rowOf, rowS, isStr, esz, tdOf, convV, buildV, fillV, partsV, okParts, fillL, D.whole, D.demoteC, D.demote, demoteL, D.global, D.flat, D.leaf, D.cells, TI.agg, TD.rowish, callOpV, moveL, CC, keepB, St.borrowL, St.borrow, D.isLsl, adoptR, adoptC, adoptCL, adoptL, adopt, List.toArray, Array.toList, Nat.reduceEqDiff, Nat.reduceAdd, Nat.reduceSub, Nat.reduceMul, Nat.reduceLeDiff, Nat.reduceLT, reduceIte, reduceCtorEq, forall_const, imp_self, Int.reduceNeg, Int.reduceLT, Int.reduceLE, Int.reduceGT, Int.reduceGE, Int.reduceAdd, Int.reduceSub, Int.reduceMul, Int.reduceToNat, Int.reduceEq, ne_eq, eq_self])) rfl
  clear hr
  obtain ⟨rfl, ρ', rfl, p0, p3, p4, p5, p6⟩ := hx
  simp only [st5_2, p0, p3, p4, p5, p6, c0, w0, dyn_eq, ids_len, see_len, Int.toNat_natCast, sC_nil, sC_zero, sC_succ, AL, T3, T4, T5, T22, T28, T30, T33, T42, T44, T60, T61, T62, EL, e_finWf, e_finWt, e_finMN, e_finMX, retM, meltV, tupV, D.asBox, D.row1, D.freeR, D.freeO, List.replicate_succ, stepD, accs, accP, accW, simpleOp, isAl, isExt, flipD, D.fresh1, D.row, D.plain, D.plain.plainL, St.close, St.close1, St.borrow, retV, resV, resL, outCL, outC, outL, outD, wantedV, opV, An.mid, thawV, St.settle, D.plainU, prune, envOf, get, put, eval, evalT, nz, argsV, capsV, ofV, binV, binV.aggV, unV, intV, eqOp, isConst, natV, optV, loadV, loadC, storeV, St.at_, partV, partTy, indexAddrV, fieldAddrV, sliceV, sliceV.rowSl, sliceV.strSl, bounds, cutP, builtinV, lenV, maxL, maxV, appendV, St.elems, roomy, rowOf, rowS, isStr, esz, tdOf, convV, buildV, fillV, partsV, okParts, fillL, D.whole, D.demoteC, D.demote, demoteL, D.global, D.flat, D.leaf, D.cells, TI.agg, TD.rowish, callOpV, moveL, CC, keepB, St.borrowL, St.borrow, D.isLsl, adoptR, adoptC, adoptCL, adoptL, adopt, List.toArray, Array.toList, Nat.reduceEqDiff, Nat.reduceAdd, Nat.reduceSub, Nat.reduceMul, Nat.reduceLeDiff, Nat.reduceLT, reduceIte, reduceCtorEq, forall_const, imp_self, Int.reduceNeg, Int.reduceLT, Int.reduceLE, Int.reduceGT, Int.reduceGE, Int.reduceAdd, Int.reduceSub, Int.reduceMul, Int.reduceToNat, Int.reduceEq, ne_eq, eq_self]
  refine ⟨_, rfl, ?_⟩
  show an5.at_ (some 4) _ = _
  simp only [an5, ren_map, toks_map, boxes_map, p0, p3, p4, p5, p6, cond_true, AL, An.at_, tidyV, tidyW, tidyB, tidyT, sift, envBoxes, envToks, conToks, D.toks, D.tok1, toksL, D.boxes, D.box1, boxesL, memN, posN, renE, D.ren, D.ren1, renL, renB, St.content, St.boxOk, St.tokOk, trues, T3, T4, T5, T22, T28, T30, T33, T42, T44, T60, T61, T62, EL, e_finWf, e_finWt, e_finMN, e_finMX, retM, meltV, tupV, D.asBox, D.row1, D.freeR, D.freeO, List.replicate_succ, stepD, accs, accP, accW, simpleOp, isAl, isExt, flipD, D.fresh1, D.row, D.plain, D.plain.plainL, St.close, St.close1, St.borrow, retV, resV, resL, outCL, outC, outL, outD, wantedV, opV, An.mid, thawV, St.settle, D.plainU, prune, envOf, get, put, eval, evalT, nz, argsV, capsV, ofV, binV, binV.aggV, unV, intV, eqOp, isConst, natV, optV, loadV, loadC, storeV, setC, St.at_, partV, partTy, indexAddrV, fieldAddrV, sliceV, sliceV.rowSl, sliceV.strSl, bounds, cutP, builtinV, lenV, maxL, maxV, appendV, St.elems, roomy, rowOf, rowS, isStr, esz, tdOf, convV, buildV, fillV, partsV, okParts, fillL, D.whole, D.demoteC, D.demote, demoteL, D.global, D.flat, D.leaf, D.cells, TI.agg, TD.rowish, callOpV, moveL, CC, keepB, St.borrowL, St.borrow, D.isLsl, adoptR, adoptC, adoptCL, adoptL, adopt, List.toArray, Array.toList, Nat.reduceEqDiff, Nat.reduceAdd, Nat.reduceSub, Nat.reduceMul, Nat.reduceLeDiff, Nat.reduceLT, reduceIte, reduceCtorEq, forall_const, imp_self, Int.reduceNeg, Int.reduceLT, Int.reduceLE, Int.reduceGT, Int.reduceGE, Int.reduceAdd, Int.reduceSub, Int.reduceMul, Int.reduceToNat, Int.reduceEq, ne_eq, eq_self]

set_option maxRecDepth 20000 in
set_option maxHeartbeats 4000000 in
theorem loop5 (hC : Known18 C) (ll : List (Nat × Nat)) (hll : ∀ x, x ∈ ll → x.1 < 256 ∧ x.2 < 256) (st : St) (hst : an5.at_ (some 4) st = st5 ll (0, 0, [], false)) :
    ∃ x st', loopC T an5 C lp5_0 st = some (x, st') ∧ x = .exit 0 ∧ st'.B = [] := by
  refine loop_rule (st5 ll) (poI ll) (fun x => ll.length - x.1) _ ?_ (0, 0, [], false) st hst (show poI ll (0, 0, [], false) from ⟨Nat.zero_le _, by decide, Nat.le_refl _, rfl, fun p hp => absurd hp List.not_mem_nil, fun _ => ⟨rfl, rfl⟩⟩)
  rintro ⟨i, n, l, b⟩ ⟨h1, h2, h3, hm, hw, hb⟩
  simp only at h1 h2 h3 hm hw hb
  obtain ⟨_, h8, _, _⟩ := may_sort hm
  rcases Nat.lt_or_ge i ll.length with h | h
  · rcases Nat.lt_or_ge i 60 with h60 | h60
    · left
      have hopen : ∀ ht, l.length < 8 → _ := fun ht h7 => once_open hC ll hll i n l b h h60 h3 hm hw hb h7 ht
      by_cases t : ((((ll.getD i (0, 0)).1 : Nat) : Int)).tmod 3 = 0
      · by_cases h0 : 0 < l.length
        · obtain rfl : b = true := by
            cases b with
            | true => rfl
            | false => rw [(hb rfl).2] at h0; exact absurd h0 (by decide)
          obtain ⟨l2, a1, a2, st', a3, a4⟩ := once_close hC ll hll i n l h h60 h3 hm hw h0 t
          exact ⟨(i + 1, n, l2, true), ⟨st', a3, a4⟩, ⟨h, h60, by simp only; omega, a1, a2, fun e => by cases e⟩, by simp only; omega⟩
        · obtain ⟨l2, a1, a2, st', a3, a4⟩ := hopen (.inr ⟨t, by omega⟩) (by omega)
          exact ⟨(i + 1, n + 1, l2, true), ⟨st', a3, a4⟩, ⟨h, h60, by simp only; omega, a1, a2, fun e => by cases e⟩, by simp only; omega⟩
      · by_cases h7 : l.length = 8
        · obtain rfl : b = true := by
            cases b with
            | true => rfl
            | false => rw [(hb rfl).2] at h7; cases h7
          obtain ⟨st', a3, a4⟩ := once_full hC ll hll i n l h h60 h3 hm hw h7 t
          exact ⟨(i + 1, n, l, true), ⟨st', a3, a4⟩, ⟨h, h60, by simp only; omega, hm, hw, fun e => by cases e⟩, by simp only; omega⟩
        · obtain ⟨l2, a1, a2, st', a3, a4⟩ := hopen (.inl ⟨t, rfl⟩) (by omega)
          exact ⟨(i + 1, n + 1, l2, true), ⟨st', a3, a4⟩, ⟨h, h60, by simp only; omega, a1, a2, fun e => by cases e⟩, by simp only; omega⟩
    · right
      obtain rfl : i = 60 := by omega
      have g0 : ((60 : Nat) : Int) < ll.length := by omega
      have g1 : ¬ ((60 : Nat) : Int) < 60 := by omega
      simp only [st5]
      cases b <;> simp only [cond_true, cond_false]
      · simp only [st5, lp5_0, subC, atC, Tryd.f5, an5, g0, g1, T3, T4, T5, T22, T28, T30, T33, T42, T44, T60, T61, T62, EL, e_finWf, e_finWt, e_finMN, e_finMX, retM, meltV, tupV, D.asBox, D.row1, D.freeR, D.freeO, List.replicate_succ, stepD, accs, accP, accW, simpleOp, isAl, isExt, flipD, D.fresh1, D.row, D.plain, D.plain.plainL, St.close, St.close1, St.borrow, retV, resV, resL, outCL, outC, outL, outD, wantedV, opV, An.mid, thawV, St.settle, D.plainU, prune, envOf, get, put, eval, evalT, nz, argsV, capsV, ofV, binV, binV.aggV, unV, intV, eqOp, isConst, natV, optV, loadV, loadC, storeV, setC, St.at_, partV, partTy, indexAddrV, fieldAddrV, sliceV, sliceV.rowSl, sliceV.strSl, bounds, cutP, builtinV, lenV, maxL, maxV, appendV, St.elems, roomy, rowOf, rowS, isStr, esz, tdOf, convV, buildV, fillV, partsV, okParts, fillL, D.whole, D.demoteC, D.demote, demoteL, D.global, D.flat, D.leaf, D.cells, TI.agg, TD.rowish, callOpV, moveL, CC, keepB, St.borrowL, St.borrow, D.isLsl, adoptR, adoptC, adoptCL, adoptL, adopt, List.toArray, Array.toList, Nat.reduceEqDiff, Nat.reduceAdd, Nat.reduceSub, Nat.reduceMul, Nat.reduceLeDiff, Nat.reduceLT, reduceIte, reduceCtorEq, forall_const, imp_self, Int.reduceNeg, Int.reduceLT, Int.reduceLE, Int.reduceGT, Int.reduceGE, Int.reduceAdd, Int.reduceSub, Int.reduceMul, Int.reduceToNat, Int.reduceEq, ne_eq, eq_self]
        exact ⟨_, _, rfl, by simp, rfl, rfl⟩
      · simp only [st5, lp5_0, subC, atC, Tryd.f5, an5, g0, g1, T3, T4, T5, T22, T28, T30, T33, T42, T44, T60, T61, T62, EL, e_finWf, e_finWt, e_finMN, e_finMX, retM, meltV, tupV, D.asBox, D.row1, D.freeR, D.freeO, List.replicate_succ, stepD, accs, accP, accW, simpleOp, isAl, isExt, flipD, D.fresh1, D.row, D.plain, D.plain.plainL, St.close, St.close1, St.borrow, retV, resV, resL, outCL, outC, outL, outD, wantedV, opV, An.mid, thawV, St.settle, D.plainU, prune, envOf, get, put, eval, evalT, nz, argsV, capsV, ofV, binV, binV.aggV, unV, intV, eqOp, isConst, natV, optV, loadV, loadC, storeV, setC, St.at_, partV, partTy, indexAddrV, fieldAddrV, sliceV, sliceV.rowSl, sliceV.strSl, bounds, cutP, builtinV, lenV, maxL, maxV, appendV, St.elems, roomy, rowOf, rowS, isStr, esz, tdOf, convV, buildV, fillV, partsV, okParts, fillL, D.whole, D.demoteC, D.demote, demoteL, D.global, D.flat, D.leaf, D.cells, TI.agg, TD.rowish, callOpV, moveL, CC, keepB, St.borrowL, St.borrow, D.isLsl, adoptR, adoptC, adoptCL, adoptL, adopt, List.toArray, Array.toList, Nat.reduceEqDiff, Nat.reduceAdd, Nat.reduceSub, Nat.reduceMul, Nat.reduceLeDiff, Nat.reduceLT, reduceIte, reduceCtorEq, forall_const, imp_self, Int.reduceNeg, Int.reduceLT, Int.reduceLE, Int.reduceGT, Int.reduceGE, Int.reduceAdd, Int.reduceSub, Int.reduceMul, Int.reduceToNat, Int.reduceEq, ne_eq, eq_self]
        exact ⟨_, _, rfl, by simp, rfl, rfl⟩
  · right
    obtain rfl : i = ll.length := by omega
    have g0 : ¬ ((ll.length : Nat) : Int) < ll.length := by omega
    simp only [st5]
    cases b <;> simp only [cond_true, cond_false]
    · simp only [st5, lp5_0, subC, atC, Tryd.f5, an5, g0, T3, T4, T5, T22, T28, T30, T33, T42, T44, T60, T61, T62, EL, e_finWf, e_finWt, e_finMN, e_finMX, retM, meltV, tupV, D.asBox, D.row1, D.freeR, D.freeO, List.replicate_succ, stepD, accs, accP, accW, simpleOp, isAl, isExt, flipD, D.fresh1, D.row, D.plain, D.plain.plainL, St.close, St.close1, St.borrow, retV, resV, resL, outCL, outC, outL, outD, wantedV, opV, An.mid, thawV, St.settle, D.plainU, prune, envOf, get, put, eval, evalT, nz, argsV, capsV, ofV, binV, binV.aggV, unV, intV, eqOp, isConst, natV, optV, loadV, loadC, storeV, setC, St.at_, partV, partTy, indexAddrV, fieldAddrV, sliceV, sliceV.rowSl, sliceV.strSl, bounds, cutP, builtinV, lenV, maxL, maxV, appendV, St.elems, roomy, rowOf, rowS, isStr, esz, tdOf, convV, buildV, fillV, partsV, okParts, fillL, D.whole, D.demoteC, D.demote, demoteL, D.global, D.flat, D.leaf, D.cells, TI.agg, TD.rowish, callOpV, moveL, CC, keepB, St.borrowL, St.borrow, D.isLsl, adoptR, adoptC, adoptCL, adoptL, adopt, List.toArray, Array.toList, Nat.reduceEqDiff, Nat.reduceAdd, Nat.reduceSub, Nat.reduceMul, Nat.reduceLeDiff, Nat.reduceLT, reduceIte, reduceCtorEq, forall_const, imp_self, Int.reduceNeg, Int.reduceLT, Int.reduceLE, Int.reduceGT, Int.reduceGE, Int.reduceAdd, Int.reduceSub, Int.reduceMul, Int.reduceToNat, Int.reduceEq, ne_eq, eq_self]
      exact ⟨_, _, rfl, by simp, rfl, rfl⟩
    · simp only [st5, lp5_0, subC, atC, Tryd.f5, an5, g0, T3, T4, T5, T22, T28, T30, T33, T42, T44, T60, T61, T62, EL, e_finWf, e_finWt, e_finMN, e_finMX, retM, meltV, tupV, D.asBox, D.row1, D.freeR, D.freeO, List.replicate_succ, stepD, accs, accP, accW, simpleOp, isAl, isExt, flipD, D.fresh1, D.row, D.plain, D.plain.plainL, St.close, St.close1, St.borrow, retV, resV, resL, outCL, outC, outL, outD, wantedV, opV, An.mid, thawV, St.settle, D.plainU, prune, envOf, get, put, eval, evalT, nz, argsV, capsV, ofV, binV, binV.aggV, unV, intV, eqOp, isConst, natV, optV, loadV, loadC, storeV, setC, St.at_, partV, partTy, indexAddrV, fieldAddrV, sliceV, sliceV.rowSl, sliceV.strSl, bounds, cutP, builtinV, lenV, maxL, maxV, appendV, St.elems, roomy, rowOf, rowS, isStr, esz, tdOf, convV, buildV, fillV, partsV, okParts, fillL, D.whole, D.demoteC, D.demote, demoteL, D.global, D.flat, D.leaf, D.cells, TI.agg, TD.rowish, callOpV, moveL, CC, keepB, St.borrowL, St.borrow, D.isLsl, adoptR, adoptC, adoptCL, adoptL, adopt, List.toArray, Array.toList, Nat.reduceEqDiff, Nat.reduceAdd, Nat.reduceSub, Nat.reduceMul, Nat.reduceLeDiff, Nat.reduceLT, reduceIte, reduceCtorEq, forall_const, imp_self, Int.reduceNeg, Int.reduceLT, Int.reduceLE, Int.reduceGT, Int.reduceGE, Int.reduceAdd, Int.reduceSub, Int.reduceMul, Int.reduceToNat, Int.reduceEq, ne_eq, eq_self]
      exact ⟨_, _, rfl, by simp, rfl, rfl⟩

set_option maxRecDepth 20000 in
set_option maxHeartbeats 4000000 in
theorem run5 (hC : Known18 C) (ll : List (Nat × Nat)) (hll : ∀ x, x ∈ ll → x.1 < 256 ∧ x.2 < 256) : runV T C fi5 [prs ll] [] = some (.bool true, []) := by
  rw [e_run _ _ _ rfl]
  have c0 := c14 hC
  have lp := loop5 hC ll hll
  simp only [fi5, Tryd.f5, an5, c0, sC_nil, sC_zero, sC_succ, AL, T3, T4, T5, T22, T28, T30, T33, T42, T44, T60, T61, T62, EL, e_finWf, e_finWt, e_finMN, e_finMX, retM, meltV, tupV, D.asBox, D.row1, D.freeR, D.freeO, List.replicate_succ, stepD, accs, accP, accW, simpleOp, isAl, isExt, flipD, D.fresh1, D.row, D.plain, D.plain.plainL, St.close, St.close1, St.borrow, retV, resV, resL, outCL, outC, outL, outD, wantedV, opV, An.mid, thawV, St.settle, D.plainU, prune, envOf, get, put, eval, evalT, nz, argsV, capsV, ofV, binV, binV.aggV, unV, intV, eqOp, isConst, natV, optV, loadV, loadC, storeV, St.at_, partV, partTy, indexAddrV, fieldAddrV, sliceV, sliceV.rowSl, sliceV.strSl, bounds, cutP, builtinV, lenV, maxL, maxV, appendV, St.elems, roomy, rowOf, rowS, isStr, esz, tdOf, convV, buildV, fillV, partsV, okParts, fillL, D.whole, D.demoteC, D.demote, demoteL, D.global, D.flat, D.leaf, D.cells, TI.agg, TD.rowish, callOpV, moveL, CC, keepB, St.borrowL, St.borrow, D.isLsl, adoptR, adoptC, adoptCL, adoptL, adopt, List.toArray, Array.toList, Nat.reduceEqDiff, Nat.reduceAdd, Nat.reduceSub, Nat.reduceMul, Nat.reduceLeDiff, Nat.reduceLT, reduceIte, reduceCtorEq, forall_const, imp_self, Int.reduceNeg, Int.reduceLT, Int.reduceLE, Int.reduceGT, Int.reduceGE, Int.reduceAdd, Int.reduceSub, Int.reduceMul, Int.reduceToNat, Int.reduceEq, ne_eq, eq_self]
  refine' in_loop (c' := lp5_0) (fin T _ _ _) ?h rfl ?q
  case h =>
    refine lp _ ?_
    simp only [an5, ren_map, toks_map, boxes_map, st5, seeD, idsD, pz0, cond_false, List.range_zero, AL, An.at_, tidyV, tidyW, tidyB, tidyT, sift, envBoxes, envToks, conToks, D.toks, D.tok1, toksL, D.boxes, D.box1, boxesL, memN, posN, renE, D.ren, D.ren1, renL, renB, St.content, St.boxOk, St.tokOk, trues, T3, T4, T5, T22, T28, T30, T33, T42, T44, T60, T61, T62, EL, e_finWf, e_finWt, e_finMN, e_finMX, retM, meltV, tupV, D.asBox, D.row1, D.freeR, D.freeO, List.replicate_succ, stepD, accs, accP, accW, simpleOp, isAl, isExt, flipD, D.fresh1, D.row, D.plain, D.plain.plainL, St.close, St.close1, St.borrow, retV, resV, resL, outCL, outC, outL, outD, wantedV, opV, An.mid, thawV, St.settle, D.plainU, prune, envOf, get, put, eval, evalT, nz, argsV, capsV, ofV, binV, binV.aggV, unV, intV, eqOp, isConst, natV, optV, loadV, loadC, storeV, setC, St.at_, partV, partTy, indexAddrV, fieldAddrV, sliceV, sliceV.rowSl, sliceV.strSl, bounds, cutP, builtinV, lenV, maxL, maxV, appendV, St.elems, roomy, rowOf, rowS, isStr, esz, tdOf, convV, buildV, fillV, partsV, okParts, fillL, D.whole, D.demoteC, D.demote, demoteL, D.global, D.flat, D.leaf, D.cells, TI.agg, TD.rowish, callOpV, moveL, CC, keepB, St.borrowL, St.borrow, D.isLsl, adoptR, adoptC, adoptCL, adoptL, adopt, List.toArray, Array.toList, Nat.reduceEqDiff, Nat.reduceAdd, Nat.reduceSub, Nat.reduceMul, Nat.reduceLeDiff, Nat.reduceLT, reduceIte, reduceCtorEq, forall_const, imp_self, Int.reduceNeg, Int.reduceLT, Int.reduceLE, Int.reduceGT, Int.reduceGE, Int.reduceAdd, Int.reduceSub, Int.reduceMul, Int.reduceToNat, Int.reduceEq, ne_eq, eq_self]
    all_goals rfl
  rintro x ⟨ρ, L, τ, B⟩ ⟨rfl, rfl⟩
  simp only [c0, AL, T3, T4, T5, T22, T28, T30, T33, T42, T44, T60, T61, T62, EL, e_finWf, e_finWt, e_finMN, e_finMX, retM, meltV, tupV, D.asBox, D.row1, D.freeR, D.freeO, List.replicate_succ, stepD, accs, accP, accW, simpleOp, isAl, isExt, flipD, D.fresh1, D.row, D.plain, D.plain.plainL, St.close, St.close1, St.borrow, retV, resV, resL, outCL, outC, outL, outD, wantedV, opV, An.mid, thawV, St.settle, D.plainU, prune, envOf, get, put, eval, evalT, nz, argsV, capsV, ofV, binV, binV.aggV, unV, intV, eqOp, isConst, natV, optV, loadV, loadC, storeV, St.at_, partV, partTy, indexAddrV, fieldAddrV, sliceV, sliceV.rowSl, sliceV.strSl, bounds, cutP, builtinV, lenV, maxL, maxV, appendV, St.elems, roomy, rowOf, rowS, isStr, esz, tdOf, convV, buildV, fillV, partsV, okParts, fillL, D.whole, D.demoteC, D.demote, demoteL, D.global, D.flat, D.leaf, D.cells, TI.agg, TD.rowish, callOpV, moveL, CC, keepB, St.borrowL, St.borrow, D.isLsl, adoptR, adoptC, adoptCL, adoptL, adopt, List.toArray, Array.toList, Nat.reduceEqDiff, Nat.reduceAdd, Nat.reduceSub, Nat.reduceMul, Nat.reduceLeDiff, Nat.reduceLT, reduceIte, reduceCtorEq, forall_const, imp_self, Int.reduceNeg, Int.reduceLT, Int.reduceLE, Int.reduceGT, Int.reduceGE, Int.reduceAdd, Int.reduceSub, Int.reduceMul, Int.reduceToNat, Int.reduceEq, ne_eq, eq_self]

end Go.Proofs.YtnhelkclkdfndaaDoor.V
