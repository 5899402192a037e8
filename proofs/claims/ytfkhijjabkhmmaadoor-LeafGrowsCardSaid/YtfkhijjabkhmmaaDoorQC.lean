/-
Layer 9: how many bytes; the way to a key.
-/
import Derived.Test.YtfkhijjabkhmmaaDoorQB
namespace Go.Proofs.YtfkhijjabkhmmaaDoor.V
open Go Go.RowKit
set_option linter.unusedSimpArgs false
set_option linter.unusedVariables false

variable {C : Callees}

def st102 (B : Hp) (ks : List Ky) (k : Nat) : St := ⟨[(3, .int .i64 (sizeF (ks.take k) : Nat)), (6, strR ks .none), (7, .int .i64 ks.length), (8, .int .i64 (k : Nat))], [], [], B⟩
theorem take_get {ks : List Ky} {k : Nat} (h : k < ks.length) : ks.take (k + 1) = ks.take k ++ [ks.getD k []] := by
  rw [List.take_add_one, List.getElem?_eq_getElem h, List.getD_eq_getElem?_getD, List.getElem?_eq_getElem h]; rfl
theorem mem_getD {ks : List Ky} {k : Nat} (h : k < ks.length) : ks.getD k [] ∈ ks := by
  rw [List.getD_eq_getElem?_getD, List.getElem?_eq_getElem h]; exact List.getElem_mem h

set_option maxRecDepth 10000 in
theorem loop102 (C : Callees) (B : Hp) (ks : List Ky) (hl : ks.length ≤ 1000) (hk40 : ∀ k, k ∈ ks → k.length ≤ 40) (st : St) (hst : an102.at_ (some 3) st = st102 B ks 0) :
    ∃ x st', loopC T an102 C lp102_0 st = some (x, st') ∧ x = .exit 0 ∧ ∃ ρ, st' = ⟨ρ, [], [], B⟩ ∧ get ρ 3 = .int .i64 (sizeF ks : Nat) := by
  refine loop_rule (st102 B ks) (fun k => k ≤ ks.length) (fun k => ks.length - k) _ ?_ 0 st hst (Nat.zero_le _)
  intro k hk
  rcases Nat.lt_or_ge k ks.length with h | h
  · left
    have g0 : (k : Int) < ks.length := by omega
    have g1 := pnat k
    have w1 : IntKind.i64.wrap ((k : Int) + 1) = ((k + 1 : Nat) : Int) := by rw [wrapI (by omega) (by omega)]; rfl
    have e1 := str_get h
    have hx := hk40 _ (mem_getD h)
    have hs := sizeF_le (ks.take k) (fun x hx => hk40 x (List.mem_of_mem_take hx))
    have hlt : (ks.take k).length ≤ 1000 := by rw [List.length_take]; omega
    have e2 := sizeF_app (ks.take k) (ks.getD k [])
    rw [← take_get h] at e2
    refine ⟨k + 1, ?_, by omega, by omega⟩
    have w2 : IntKind.i64.wrap (1 + ((ks.getD k []).length : Int)) = ((1 + (ks.getD k []).length : Nat) : Int) := by rw [wrapI (by omega) (by omega)]; omega
    have w3 : IntKind.i64.wrap (((1 + (ks.getD k []).length : Nat) : Int) + 2) = ((1 + (ks.getD k []).length + 2 : Nat) : Int) := by rw [wrapI (by omega) (by omega)]; omega
    have w4 : IntKind.i64.wrap ((sizeF (ks.take k) : Int) + ((1 + (ks.getD k []).length + 2 : Nat) : Int)) = (sizeF (ks.take (k + 1)) : Nat) := by rw [e2, wrapI (by omega) (by omega)]; omega
    simp only [st102, lp102_0, subC, atC, Tryd.f102, an102, g0, g1, w1, w2, w3, w4, e1, Int.toNat_natCast, T3, T9, T109, EL, e_finWf, e_finWt, e_finMN, e_finMX, retM, meltV, tupV, D.asBox, D.row1, D.freeR, D.freeO, List.replicate_succ, stepD, accs, accP, accW, simpleOp, isAl, isExt, flipD, D.fresh1, D.row, D.plain, D.plain.plainL, St.close, St.close1, St.borrow, retV, resV, resL, outCL, outC, outL, outD, wantedV, opV, An.mid, thawV, St.settle, D.plainU, prune, envOf, get, put, eval, evalT, nz, argsV, capsV, ofV, binV, binV.aggV, unV, intV, eqOp, isConst, natV, optV, loadV, loadC, storeV, setC, St.at_, partV, partTy, indexAddrV, fieldAddrV, sliceV, sliceV.rowSl, sliceV.strSl, bounds, cutP, builtinV, lenV, maxL, maxV, appendV, St.elems, roomy, rowOf, rowS, isStr, esz, tdOf, convV, buildV, fillV, partsV, okParts, fillL, D.whole, D.demoteC, D.demote, demoteL, D.global, D.flat, D.leaf, D.cells, TI.agg, TD.rowish, callOpV, moveL, CC, keepB, St.borrowL, St.borrow, D.isLsl, adoptR, adoptC, adoptCL, adoptL, adopt, List.toArray, Array.toList, Nat.reduceEqDiff, Nat.reduceAdd, Nat.reduceSub, Nat.reduceMul, Nat.reduceLeDiff, Nat.reduceLT, reduceIte, reduceCtorEq, forall_const, imp_self, Int.reduceNeg, Int.reduceLT, Int.reduceLE, Int.reduceGT, Int.reduceGE, Int.reduceAdd, Int.reduceSub, Int.reduceMul, Int.reduceToNat, Int.reduceEq, ne_eq, eq_self]
    exact ⟨_, rfl, rfl⟩
  · right
    obtain rfl : k = ks.length := by omega
    have g0 : ¬ ((ks.length : Nat) : Int) < ks.length := by omega
    have e1 : ks.take ks.length = ks := List.take_length
    simp only [st102, lp102_0, subC, atC, Tryd.f102, an102, g0, e1, T3, T9, T109, EL, e_finWf, e_finWt, e_finMN, e_finMX, retM, meltV, tupV, D.asBox, D.row1, D.freeR, D.freeO, List.replicate_succ, stepD, accs, accP, accW, simpleOp, isAl, isExt, flipD, D.fresh1, D.row, D.plain, D.plain.plainL, St.close, St.close1, St.borrow, retV, resV, resL, outCL, outC, outL, outD, wantedV, opV, An.mid, thawV, St.settle, D.plainU, prune, envOf, get, put, eval, evalT, nz, argsV, capsV, ofV, binV, binV.aggV, unV, intV, eqOp, isConst, natV, optV, loadV, loadC, storeV, setC, St.at_, partV, partTy, indexAddrV, fieldAddrV, sliceV, sliceV.rowSl, sliceV.strSl, bounds, cutP, builtinV, lenV, maxL, maxV, appendV, St.elems, roomy, rowOf, rowS, isStr, esz, tdOf, convV, buildV, fillV, partsV, okParts, fillL, D.whole, D.demoteC, D.demote, demoteL, D.global, D.flat, D.leaf, D.cells, TI.agg, TD.rowish, callOpV, moveL, CC, keepB, St.borrowL, St.borrow, D.isLsl, adoptR, adoptC, adoptCL, adoptL, adopt, List.toArray, Array.toList, Nat.reduceEqDiff, Nat.reduceAdd, Nat.reduceSub, Nat.reduceMul, Nat.reduceLeDiff, Nat.reduceLT, reduceIte, reduceCtorEq, forall_const, imp_self, Int.reduceNeg, Int.reduceLT, Int.reduceLE, Int.reduceGT, Int.reduceGE, Int.reduceAdd, Int.reduceSub, Int.reduceMul, Int.reduceToNat, Int.reduceEq, ne_eq, eq_self]
    exact ⟨_, _, rfl, by simp, rfl, _, rfl, rfl⟩
set_option maxRecDepth 10000 in
theorem run102 (C : Callees) (ks : List Ky) (hl : ks.length ≤ 1000) (hk40 : ∀ k, k ∈ ks → k.length ≤ 40) (B : Hp) : runV T C fi102 [strR ks .none] B = some (.int .i64 (sizeF ks : Nat), B) := by
  rw [e_run _ _ _ rfl]
  have lp := loop102 C B ks hl hk40
  simp only [fi102, Tryd.f102, an102, T3, T9, T109, EL, e_finWf, e_finWt, e_finMN, e_finMX, retM, meltV, tupV, D.asBox, D.row1, D.freeR, D.freeO, List.replicate_succ, stepD, accs, accP, accW, simpleOp, isAl, isExt, flipD, D.fresh1, D.row, D.plain, D.plain.plainL, St.close, St.close1, St.borrow, retV, resV, resL, outCL, outC, outL, outD, wantedV, opV, An.mid, thawV, St.settle, D.plainU, prune, envOf, get, put, eval, evalT, nz, argsV, capsV, ofV, binV, binV.aggV, unV, intV, eqOp, isConst, natV, optV, loadV, loadC, storeV, setC, St.at_, partV, partTy, indexAddrV, fieldAddrV, sliceV, sliceV.rowSl, sliceV.strSl, bounds, cutP, builtinV, lenV, maxL, maxV, appendV, St.elems, roomy, rowOf, rowS, isStr, esz, tdOf, convV, buildV, fillV, partsV, okParts, fillL, D.whole, D.demoteC, D.demote, demoteL, D.global, D.flat, D.leaf, D.cells, TI.agg, TD.rowish, callOpV, moveL, CC, keepB, St.borrowL, St.borrow, D.isLsl, adoptR, adoptC, adoptCL, adoptL, adopt, List.toArray, Array.toList, Nat.reduceEqDiff, Nat.reduceAdd, Nat.reduceSub, Nat.reduceMul, Nat.reduceLeDiff, Nat.reduceLT, reduceIte, reduceCtorEq, forall_const, imp_self, Int.reduceNeg, Int.reduceLT, Int.reduceLE, Int.reduceGT, Int.reduceGE, Int.reduceAdd, Int.reduceSub, Int.reduceMul, Int.reduceToNat, Int.reduceEq, ne_eq, eq_self]
  refine' in_loop (c' := lp102_0) (fin T _ _ _) ?h rfl ?q
  case h =>
    refine lp _ ?_
    simp only [an102, ren_map, toks_map, boxes_map, st102, pz0, List.take_zero, sizeF, An.at_, tidyV, tidyW, tidyB, tidyT, sift, envBoxes, envToks, conToks, D.toks, D.tok1, toksL, D.boxes, D.box1, boxesL, memN, posN, renE, D.ren, D.ren1, renL, renB, St.content, St.boxOk, St.tokOk, trues, T3, T9, T109, EL, e_finWf, e_finWt, e_finMN, e_finMX, retM, meltV, tupV, D.asBox, D.row1, D.freeR, D.freeO, List.replicate_succ, stepD, accs, accP, accW, simpleOp, isAl, isExt, flipD, D.fresh1, D.row, D.plain, D.plain.plainL, St.close, St.close1, St.borrow, retV, resV, resL, outCL, outC, outL, outD, wantedV, opV, An.mid, thawV, St.settle, D.plainU, prune, envOf, get, put, eval, evalT, nz, argsV, capsV, ofV, binV, binV.aggV, unV, intV, eqOp, isConst, natV, optV, loadV, loadC, storeV, setC, St.at_, partV, partTy, indexAddrV, fieldAddrV, sliceV, sliceV.rowSl, sliceV.strSl, bounds, cutP, builtinV, lenV, maxL, maxV, appendV, St.elems, roomy, rowOf, rowS, isStr, esz, tdOf, convV, buildV, fillV, partsV, okParts, fillL, D.whole, D.demoteC, D.demote, demoteL, D.global, D.flat, D.leaf, D.cells, TI.agg, TD.rowish, callOpV, moveL, CC, keepB, St.borrowL, St.borrow, D.isLsl, adoptR, adoptC, adoptCL, adoptL, adopt, List.toArray, Array.toList, Nat.reduceEqDiff, Nat.reduceAdd, Nat.reduceSub, Nat.reduceMul, Nat.reduceLeDiff, Nat.reduceLT, reduceIte, reduceCtorEq, forall_const, imp_self, Int.reduceNeg, Int.reduceLT, Int.reduceLE, Int.reduceGT, Int.reduceGE, Int.reduceAdd, Int.reduceSub, Int.reduceMul, Int.reduceToNat, Int.reduceEq, ne_eq, eq_self]
    all_goals rfl
  rintro x st' ⟨rfl, ρ, rfl, r3⟩
  simp only [r3, T3, T9, T109, EL, e_finWf, e_finWt, e_finMN, e_finMX, retM, meltV, tupV, D.asBox, D.row1, D.freeR, D.freeO, List.replicate_succ, stepD, accs, accP, accW, simpleOp, isAl, isExt, flipD, D.fresh1, D.row, D.plain, D.plain.plainL, St.close, St.close1, St.borrow, retV, resV, resL, outCL, outC, outL, outD, wantedV, opV, An.mid, thawV, St.settle, D.plainU, prune, envOf, get, put, eval, evalT, nz, argsV, capsV, ofV, binV, binV.aggV, unV, intV, eqOp, isConst, natV, optV, loadV, loadC, storeV, setC, St.at_, partV, partTy, indexAddrV, fieldAddrV, sliceV, sliceV.rowSl, sliceV.strSl, bounds, cutP, builtinV, lenV, maxL, maxV, appendV, St.elems, roomy, rowOf, rowS, isStr, esz, tdOf, convV, buildV, fillV, partsV, okParts, fillL, D.whole, D.demoteC, D.demote, demoteL, D.global, D.flat, D.leaf, D.cells, TI.agg, TD.rowish, callOpV, moveL, CC, keepB, St.borrowL, St.borrow, D.isLsl, adoptR, adoptC, adoptCL, adoptL, adopt, List.toArray, Array.toList, Nat.reduceEqDiff, Nat.reduceAdd, Nat.reduceSub, Nat.reduceMul, Nat.reduceLeDiff, Nat.reduceLT, reduceIte, reduceCtorEq, forall_const, imp_self, Int.reduceNeg, Int.reduceLT, Int.reduceLE, Int.reduceGT, Int.reduceGE, Int.reduceAdd, Int.reduceSub, Int.reduceMul, Int.reduceToNat, Int.reduceEq, ne_eq, eq_self]
theorem c102 (hC : Lib09A C) (ks : List Ky) (hl : ks.length ≤ 1000) (hk40 : ∀ k, k ∈ ks → k.length ≤ 40) (B : Hp) : C 102 [.vec 1 (ks.map D.str) .none] B = some (.int .i64 (sizeF ks : Nat), B) := hC.f102 _ _ _ (run102 C ks hl hk40 B)

/-! ### The way -/
def cmpS (a b : Ky) : Int := if lt a b = true then -1 else if lt b a = true then 1 else 0
set_option maxRecDepth 10000 in
theorem run79 (C : Callees) (a : Ky) (B : Hp) : runV T C fi79 [.str a] B = some (.bool false, B) := by
  rw [e_run _ _ _ rfl]
  have s1 : strV .neq a a = some (.bool false) := by simp [strV]
  simp only [fi79, Tryd.f79, an79, s1, T9, EL, e_finWf, e_finWt, e_finMN, e_finMX, retM, meltV, tupV, D.asBox, D.row1, D.freeR, D.freeO, List.replicate_succ, stepD, accs, accP, accW, simpleOp, isAl, isExt, flipD, D.fresh1, D.row, D.plain, D.plain.plainL, St.close, St.close1, St.borrow, retV, resV, resL, outCL, outC, outL, outD, wantedV, opV, An.mid, thawV, St.settle, D.plainU, prune, envOf, get, put, eval, evalT, nz, argsV, capsV, ofV, binV, binV.aggV, unV, intV, eqOp, isConst, natV, optV, loadV, loadC, storeV, setC, St.at_, partV, partTy, indexAddrV, fieldAddrV, sliceV, sliceV.rowSl, sliceV.strSl, bounds, cutP, builtinV, lenV, maxL, maxV, appendV, St.elems, roomy, rowOf, rowS, isStr, esz, tdOf, convV, buildV, fillV, partsV, okParts, fillL, D.whole, D.demoteC, D.demote, demoteL, D.global, D.flat, D.leaf, D.cells, TI.agg, TD.rowish, callOpV, moveL, CC, keepB, St.borrowL, St.borrow, D.isLsl, adoptR, adoptC, adoptCL, adoptL, adopt, List.toArray, Array.toList, Nat.reduceEqDiff, Nat.reduceAdd, Nat.reduceSub, Nat.reduceMul, Nat.reduceLeDiff, Nat.reduceLT, reduceIte, reduceCtorEq, forall_const, imp_self, Int.reduceNeg, Int.reduceLT, Int.reduceLE, Int.reduceGT, Int.reduceGE, Int.reduceAdd, Int.reduceSub, Int.reduceMul, Int.reduceToNat, Int.reduceEq, ne_eq, eq_self]
theorem c79 (hC : Lib09A C) (a : Ky) (B : Hp) : C 79 [.str a] B = some (.bool false, B) := hC.f79 _ _ _ (run79 C a B)
set_option maxRecDepth 10000 in
theorem run55 (hC : Lib09A C) (a b : Ky) (B : Hp) : runV T C fi55 [.str a, .str b] B = some (.int .i64 (cmpS a b), B) := by
  rw [e_run _ _ _ rfl]
  have c1 := c79 hC a
  have c2 := c79 hC b
  have s1 : strV .lss a b = some (.bool (lt a b)) := rfl
  have s2 : strV .gtr a b = some (.bool !(lt a b || a == b)) := rfl
  unfold cmpS
  cases h1 : lt a b with
  | true =>
    rw [h1] at s1
    simp only [fi55, Tryd.f55, an55, c1, c2, s1, T9, EL, e_finWf, e_finWt, e_finMN, e_finMX, retM, meltV, tupV, D.asBox, D.row1, D.freeR, D.freeO, List.replicate_succ, stepD, accs, accP, accW, simpleOp, isAl, isExt, flipD, D.fresh1, D.row, D.plain, D.plain.plainL, St.close, St.close1, St.borrow, retV, resV, resL, outCL, outC, outL, outD, wantedV, opV, An.mid, thawV, St.settle, D.plainU, prune, envOf, get, put, eval, evalT, nz, argsV, capsV, ofV, binV, binV.aggV, unV, intV, eqOp, isConst, natV, optV, loadV, loadC, storeV, setC, St.at_, partV, partTy, indexAddrV, fieldAddrV, sliceV, sliceV.rowSl, sliceV.strSl, bounds, cutP, builtinV, lenV, maxL, maxV, appendV, St.elems, roomy, rowOf, rowS, isStr, esz, tdOf, convV, buildV, fillV, partsV, okParts, fillL, D.whole, D.demoteC, D.demote, demoteL, D.global, D.flat, D.leaf, D.cells, TI.agg, TD.rowish, callOpV, moveL, CC, keepB, St.borrowL, St.borrow, D.isLsl, adoptR, adoptC, adoptCL, adoptL, adopt, List.toArray, Array.toList, Nat.reduceEqDiff, Nat.reduceAdd, Nat.reduceSub, Nat.reduceMul, Nat.reduceLeDiff, Nat.reduceLT, reduceIte, reduceCtorEq, forall_const, imp_self, Int.reduceNeg, Int.reduceLT, Int.reduceLE, Int.reduceGT, Int.reduceGE, Int.reduceAdd, Int.reduceSub, Int.reduceMul, Int.reduceToNat, Int.reduceEq, ne_eq, eq_self]
  | false =>
    rw [h1] at s1
    cases h2 : lt b a with
    | true =>
      have s3 : strV .gtr a b = some (.bool true) := by
        rw [s2, h1]
        have : (a == b) = false := by
          rw [beq_eq_false_iff_ne]
          rintro rfl
          rw [h1] at h2; cases h2
        rw [this]; rfl
      simp only [fi55, Tryd.f55, an55, c1, c2, s1, s3, T9, EL, e_finWf, e_finWt, e_finMN, e_finMX, retM, meltV, tupV, D.asBox, D.row1, D.freeR, D.freeO, List.replicate_succ, stepD, accs, accP, accW, simpleOp, isAl, isExt, flipD, D.fresh1, D.row, D.plain, D.plain.plainL, St.close, St.close1, St.borrow, retV, resV, resL, outCL, outC, outL, outD, wantedV, opV, An.mid, thawV, St.settle, D.plainU, prune, envOf, get, put, eval, evalT, nz, argsV, capsV, ofV, binV, binV.aggV, unV, intV, eqOp, isConst, natV, optV, loadV, loadC, storeV, setC, St.at_, partV, partTy, indexAddrV, fieldAddrV, sliceV, sliceV.rowSl, sliceV.strSl, bounds, cutP, builtinV, lenV, maxL, maxV, appendV, St.elems, roomy, rowOf, rowS, isStr, esz, tdOf, convV, buildV, fillV, partsV, okParts, fillL, D.whole, D.demoteC, D.demote, demoteL, D.global, D.flat, D.leaf, D.cells, TI.agg, TD.rowish, callOpV, moveL, CC, keepB, St.borrowL, St.borrow, D.isLsl, adoptR, adoptC, adoptCL, adoptL, adopt, List.toArray, Array.toList, Nat.reduceEqDiff, Nat.reduceAdd, Nat.reduceSub, Nat.reduceMul, Nat.reduceLeDiff, Nat.reduceLT, reduceIte, reduceCtorEq, forall_const, imp_self, Int.reduceNeg, Int.reduceLT, Int.reduceLE, Int.reduceGT, Int.reduceGE, Int.reduceAdd, Int.reduceSub, Int.reduceMul, Int.reduceToNat, Int.reduceEq, ne_eq, eq_self]
    | false =>
      have s3 : strV .gtr a b = some (.bool false) := by
        rw [s2, h1]
        have : (a == b) = true := by rw [lt_total h1 h2]; simp
        rw [this]; rfl
      simp only [fi55, Tryd.f55, an55, c1, c2, s1, s3, T9, EL, e_finWf, e_finWt, e_finMN, e_finMX, retM, meltV, tupV, D.asBox, D.row1, D.freeR, D.freeO, List.replicate_succ, stepD, accs, accP, accW, simpleOp, isAl, isExt, flipD, D.fresh1, D.row, D.plain, D.plain.plainL, St.close, St.close1, St.borrow, retV, resV, resL, outCL, outC, outL, outD, wantedV, opV, An.mid, thawV, St.settle, D.plainU, prune, envOf, get, put, eval, evalT, nz, argsV, capsV, ofV, binV, binV.aggV, unV, intV, eqOp, isConst, natV, optV, loadV, loadC, storeV, setC, St.at_, partV, partTy, indexAddrV, fieldAddrV, sliceV, sliceV.rowSl, sliceV.strSl, bounds, cutP, builtinV, lenV, maxL, maxV, appendV, St.elems, roomy, rowOf, rowS, isStr, esz, tdOf, convV, buildV, fillV, partsV, okParts, fillL, D.whole, D.demoteC, D.demote, demoteL, D.global, D.flat, D.leaf, D.cells, TI.agg, TD.rowish, callOpV, moveL, CC, keepB, St.borrowL, St.borrow, D.isLsl, adoptR, adoptC, adoptCL, adoptL, adopt, List.toArray, Array.toList, Nat.reduceEqDiff, Nat.reduceAdd, Nat.reduceSub, Nat.reduceMul, Nat.reduceLeDiff, Nat.reduceLT, reduceIte, reduceCtorEq, forall_const, imp_self, Int.reduceNeg, Int.reduceLT, Int.reduceLE, Int.reduceGT, Int.reduceGE, Int.reduceAdd, Int.reduceSub, Int.reduceMul, Int.reduceToNat, Int.reduceEq, ne_eq, eq_self]
theorem c55 (hC : Lib09A C) (a b : Ky) (B : Hp) : C 55 [.str a, .str b] B = some (.int .i64 (cmpS a b), B) := hC.f55 _ _ _ (run55 hC a b B)

def st97 (B : Hp) (ks : List Ky) (key : Ky) (x : Nat × Nat) : St := ⟨[(0, strR ks .none), (1, .str key), (2, .fn 55 []), (8, .int .i64 ks.length), (9, .int .i64 (x.1 : Nat)), (10, .int .i64 (x.2 : Nat))], [], [], B⟩

theorem shr_half (n : Nat) (h : n < 9223372036854775808) : IntKind.i64.wrap (shrV .u64 (IntKind.u64.wrap (n : Int)) 1) = ((n / 2 : Nat) : Int) := by
  rw [wrap_u64 (by omega) (by omega)]
  have := shr_nat .u64 n 1 (by decide)
  rw [show ((1 : Nat) : Int) = 1 from rfl] at this
  rw [this, wrapI (by omega) (by omega)]

set_option maxRecDepth 10000 in
set_option maxHeartbeats 1000000 in
theorem loop97 (hC : Lib09A C) (B : Hp) (ks : List Ky) (key : Ky) (hl : ks.length ≤ 100000) (hs : sortK ks) (st : St) (hst : an97.at_ (some 3) st = st97 B ks key (0, ks.length)) :
    ∃ x st', loopC T an97 C lp97_0 st = some (x, st') ∧ x = .exit 0 ∧ ∃ ρ i, st' = ⟨ρ, [], [], B⟩ ∧ i ≤ ks.length ∧ (∀ a, a < i → lt (ks.getD a []) key = true) ∧ (∀ a, i ≤ a → a < ks.length → lt (ks.getD a []) key = false) ∧ get ρ 0 = strR ks .none ∧ get ρ 1 = .str key ∧ get ρ 2 = .fn 55 [] ∧ get ρ 8 = .int .i64 ks.length ∧ get ρ 9 = .int .i64 (i : Nat) := by
  refine loop_rule (st97 B ks key) (fun x => x.1 ≤ x.2 ∧ x.2 ≤ ks.length ∧ (∀ a, a < x.1 → lt (ks.getD a []) key = true) ∧ (∀ a, x.2 ≤ a → a < ks.length → lt (ks.getD a []) key = false)) (fun x => x.2 - x.1) _ ?_ (0, ks.length) st hst ⟨Nat.zero_le _, Nat.le_refl _, fun a h => by simp at h, fun a h1 h2 => by simp at h1; omega⟩
  rintro ⟨i, j⟩ ⟨h1, h2, h3, h4⟩
  simp only at h1 h2 h3 h4
  rcases Nat.lt_or_ge i j with h | h
  · left
    have g0 : (i : Int) < j := by omega
    have w1 : IntKind.i64.wrap ((i : Int) + (j : Int)) = ((i + j : Nat) : Int) := by rw [wrapI (by omega) (by omega)]; omega
    have w0 : IntKind.u64.wrap ((i + j : Nat) : Int) = ((i + j : Nat) : Int) := wrap_u64 (by omega) (by omega)
    have w2 := shr_half (i + j) (by omega)
    rw [w0] at w2
    have w3 : IntKind.i64.wrap ((((i + j) / 2 : Nat) : Int) + 1) = (((i + j) / 2 + 1 : Nat) : Int) := by rw [wrapI (by omega) (by omega)]; rfl
    have hm : (i + j) / 2 < j := by omega
    have hm2 : i ≤ (i + j) / 2 := by omega
    generalize (i + j) / 2 = m at w2 w3 hm hm2
    have g1 := pnat m
    have e1 := str_get (ks := ks) (i := m) (by omega)
    have c1 := c55 hC (ks.getD m []) key
    unfold cmpS at c1
    cases hlt : lt (ks.getD m []) key with
    | true =>
      rw [hlt, if_pos rfl] at c1
      refine ⟨(m + 1, j), ?_, ⟨by show m + 1 ≤ j; omega, h2, fun a ha => ?_, h4⟩, by show j - (m + 1) < j - i; omega⟩
      · have g2 : (-1 : Int) < 0 := by decide
        simp only [st97, lp97_0, subC, atC, Tryd.f97, an97, g0, g1, g2, w0, w1, w2, w3, e1, c1, Int.toNat_natCast, T3, T9, T109, T132, EL, e_finWf, e_finWt, e_finMN, e_finMX, retM, meltV, tupV, D.asBox, D.row1, D.freeR, D.freeO, List.replicate_succ, stepD, accs, accP, accW, simpleOp, isAl, isExt, flipD, D.fresh1, D.row, D.plain, D.plain.plainL, St.close, St.close1, St.borrow, retV, resV, resL, outCL, outC, outL, outD, wantedV, opV, An.mid, thawV, St.settle, D.plainU, prune, envOf, get, put, eval, evalT, nz, argsV, capsV, ofV, binV, binV.aggV, unV, intV, eqOp, isConst, natV, optV, loadV, loadC, storeV, setC, St.at_, partV, partTy, indexAddrV, fieldAddrV, sliceV, sliceV.rowSl, sliceV.strSl, bounds, cutP, builtinV, lenV, maxL, maxV, appendV, St.elems, roomy, rowOf, rowS, isStr, esz, tdOf, convV, buildV, fillV, partsV, okParts, fillL, D.whole, D.demoteC, D.demote, demoteL, D.global, D.flat, D.leaf, D.cells, TI.agg, TD.rowish, callOpV, moveL, CC, keepB, St.borrowL, St.borrow, D.isLsl, adoptR, adoptC, adoptCL, adoptL, adopt, List.toArray, Array.toList, Nat.reduceEqDiff, Nat.reduceAdd, Nat.reduceSub, Nat.reduceMul, Nat.reduceLeDiff, Nat.reduceLT, reduceIte, reduceCtorEq, forall_const, imp_self, Int.reduceNeg, Int.reduceLT, Int.reduceLE, Int.reduceGT, Int.reduceGE, Int.reduceAdd, Int.reduceSub, Int.reduceMul, Int.reduceToNat, Int.reduceEq, ne_eq, eq_self]
        exact ⟨_, rfl, rfl⟩
      · have ha : a < m + 1 := ha
        rcases Nat.lt_or_ge a m with hh | hh
        · exact lt_trans (hs a m hh (by omega)) hlt
        · obtain rfl : a = m := by omega
          exact hlt
    | false =>
      rw [hlt, if_neg (by decide)] at c1
      refine ⟨(i, m), ?_, ⟨hm2, by show m ≤ _; omega, h3, fun a ha hb => ?_⟩, by show m - i < j - i; omega⟩
      · have g2 : ¬ (if lt key (ks.getD m []) = true then (1 : Int) else 0) < 0 := by split <;> decide
        generalize (if lt key (ks.getD m []) = true then (1 : Int) else 0) = r at c1 g2
        simp only [st97, lp97_0, subC, atC, Tryd.f97, an97, g0, g1, g2, w0, w1, w2, w3, e1, c1, Int.toNat_natCast, T3, T9, T109, T132, EL, e_finWf, e_finWt, e_finMN, e_finMX, retM, meltV, tupV, D.asBox, D.row1, D.freeR, D.freeO, List.replicate_succ, stepD, accs, accP, accW, simpleOp, isAl, isExt, flipD, D.fresh1, D.row, D.plain, D.plain.plainL, St.close, St.close1, St.borrow, retV, resV, resL, outCL, outC, outL, outD, wantedV, opV, An.mid, thawV, St.settle, D.plainU, prune, envOf, get, put, eval, evalT, nz, argsV, capsV, ofV, binV, binV.aggV, unV, intV, eqOp, isConst, natV, optV, loadV, loadC, storeV, setC, St.at_, partV, partTy, indexAddrV, fieldAddrV, sliceV, sliceV.rowSl, sliceV.strSl, bounds, cutP, builtinV, lenV, maxL, maxV, appendV, St.elems, roomy, rowOf, rowS, isStr, esz, tdOf, convV, buildV, fillV, partsV, okParts, fillL, D.whole, D.demoteC, D.demote, demoteL, D.global, D.flat, D.leaf, D.cells, TI.agg, TD.rowish, callOpV, moveL, CC, keepB, St.borrowL, St.borrow, D.isLsl, adoptR, adoptC, adoptCL, adoptL, adopt, List.toArray, Array.toList, Nat.reduceEqDiff, Nat.reduceAdd, Nat.reduceSub, Nat.reduceMul, Nat.reduceLeDiff, Nat.reduceLT, reduceIte, reduceCtorEq, forall_const, imp_self, Int.reduceNeg, Int.reduceLT, Int.reduceLE, Int.reduceGT, Int.reduceGE, Int.reduceAdd, Int.reduceSub, Int.reduceMul, Int.reduceToNat, Int.reduceEq, ne_eq, eq_self]
        exact ⟨_, rfl, rfl⟩
      · have ha : m ≤ a := ha
        rcases Nat.lt_or_ge m a with hh | hh
        · cases hx : lt (ks.getD a []) key with
          | false => rfl
          | true => rw [lt_trans (hs m a hh hb) hx] at hlt; cases hlt
        · obtain rfl : a = m := by omega
          exact hlt
  · right
    obtain rfl : i = j := by omega
    have g0 : ¬ (i : Int) < i := by omega
    simp only [st97, lp97_0, subC, atC, Tryd.f97, an97, g0, T3, T9, T109, T132, EL, e_finWf, e_finWt, e_finMN, e_finMX, retM, meltV, tupV, D.asBox, D.row1, D.freeR, D.freeO, List.replicate_succ, stepD, accs, accP, accW, simpleOp, isAl, isExt, flipD, D.fresh1, D.row, D.plain, D.plain.plainL, St.close, St.close1, St.borrow, retV, resV, resL, outCL, outC, outL, outD, wantedV, opV, An.mid, thawV, St.settle, D.plainU, prune, envOf, get, put, eval, evalT, nz, argsV, capsV, ofV, binV, binV.aggV, unV, intV, eqOp, isConst, natV, optV, loadV, loadC, storeV, setC, St.at_, partV, partTy, indexAddrV, fieldAddrV, sliceV, sliceV.rowSl, sliceV.strSl, bounds, cutP, builtinV, lenV, maxL, maxV, appendV, St.elems, roomy, rowOf, rowS, isStr, esz, tdOf, convV, buildV, fillV, partsV, okParts, fillL, D.whole, D.demoteC, D.demote, demoteL, D.global, D.flat, D.leaf, D.cells, TI.agg, TD.rowish, callOpV, moveL, CC, keepB, St.borrowL, St.borrow, D.isLsl, adoptR, adoptC, adoptCL, adoptL, adopt, List.toArray, Array.toList, Nat.reduceEqDiff, Nat.reduceAdd, Nat.reduceSub, Nat.reduceMul, Nat.reduceLeDiff, Nat.reduceLT, reduceIte, reduceCtorEq, forall_const, imp_self, Int.reduceNeg, Int.reduceLT, Int.reduceLE, Int.reduceGT, Int.reduceGE, Int.reduceAdd, Int.reduceSub, Int.reduceMul, Int.reduceToNat, Int.reduceEq, ne_eq, eq_self]
    exact ⟨_, _, rfl, by simp, rfl, _, _, rfl, h2, h3, h4, rfl, rfl, rfl, rfl, rfl⟩

set_option maxRecDepth 10000 in
theorem run97 (hC : Lib09A C) (ks : List Ky) (key : Ky) (hl : ks.length ≤ 100000) (hs : sortK ks) (B : Hp) : ∃ i, i ≤ ks.length ∧ (∀ a, a < i → lt (ks.getD a []) key = true) ∧ (∀ a, i ≤ a → a < ks.length → lt (ks.getD a []) key = false) ∧
    runV T C fi97 [strR ks .none, .str key, .fn 55 []] B = some (.tuple [.int .i64 (i : Nat), .bool (decide (i < ks.length) && (ks.getD i [] == key))], B) := by
  simp only [e_run _ _ _ (show [strR ks .none, .str key, .fn 55 []].length = fi97.np from rfl)]
  have lp := loop97 hC B ks key hl hs
  simp only [fi97, Tryd.f97, an97, T3, T9, T109, T132, EL, e_finWf, e_finWt, e_finMN, e_finMX, retM, meltV, tupV, D.asBox, D.row1, D.freeR, D.freeO, List.replicate_succ, stepD, accs, accP, accW, simpleOp, isAl, isExt, flipD, D.fresh1, D.row, D.plain, D.plain.plainL, St.close, St.close1, St.borrow, retV, resV, resL, outCL, outC, outL, outD, wantedV, opV, An.mid, thawV, St.settle, D.plainU, prune, envOf, get, put, eval, evalT, nz, argsV, capsV, ofV, binV, binV.aggV, unV, intV, eqOp, isConst, natV, optV, loadV, loadC, storeV, setC, St.at_, partV, partTy, indexAddrV, fieldAddrV, sliceV, sliceV.rowSl, sliceV.strSl, bounds, cutP, builtinV, lenV, maxL, maxV, appendV, St.elems, roomy, rowOf, rowS, isStr, esz, tdOf, convV, buildV, fillV, partsV, okParts, fillL, D.whole, D.demoteC, D.demote, demoteL, D.global, D.flat, D.leaf, D.cells, TI.agg, TD.rowish, callOpV, moveL, CC, keepB, St.borrowL, St.borrow, D.isLsl, adoptR, adoptC, adoptCL, adoptL, adopt, List.toArray, Array.toList, Nat.reduceEqDiff, Nat.reduceAdd, Nat.reduceSub, Nat.reduceMul, Nat.reduceLeDiff, Nat.reduceLT, reduceIte, reduceCtorEq, forall_const, imp_self, Int.reduceNeg, Int.reduceLT, Int.reduceLE, Int.reduceGT, Int.reduceGE, Int.reduceAdd, Int.reduceSub, Int.reduceMul, Int.reduceToNat, Int.reduceEq, ne_eq, eq_self]
  refine in_loopP (fun r => ∃ i, i ≤ ks.length ∧ (∀ a, a < i → lt (ks.getD a []) key = true) ∧ (∀ a, i ≤ a → a < ks.length → lt (ks.getD a []) key = false) ∧ fin T [ResultVar.tmp 6, ResultVar.tmp 7] false B r = some (.tuple [.int .i64 (i : Nat), .bool (decide (i < ks.length) && (ks.getD i [] == key))], B)) (c' := lp97_0) (lp _ ?h) rfl ?q
  case h =>
    simp only [an97, ren_map, toks_map, boxes_map, st97, pz0, An.at_, tidyV, tidyW, tidyB, tidyT, sift, envBoxes, envToks, conToks, D.toks, D.tok1, toksL, D.boxes, D.box1, boxesL, memN, posN, renE, D.ren, D.ren1, renL, renB, St.content, St.boxOk, St.tokOk, trues, T3, T9, T109, T132, EL, e_finWf, e_finWt, e_finMN, e_finMX, retM, meltV, tupV, D.asBox, D.row1, D.freeR, D.freeO, List.replicate_succ, stepD, accs, accP, accW, simpleOp, isAl, isExt, flipD, D.fresh1, D.row, D.plain, D.plain.plainL, St.close, St.close1, St.borrow, retV, resV, resL, outCL, outC, outL, outD, wantedV, opV, An.mid, thawV, St.settle, D.plainU, prune, envOf, get, put, eval, evalT, nz, argsV, capsV, ofV, binV, binV.aggV, unV, intV, eqOp, isConst, natV, optV, loadV, loadC, storeV, setC, St.at_, partV, partTy, indexAddrV, fieldAddrV, sliceV, sliceV.rowSl, sliceV.strSl, bounds, cutP, builtinV, lenV, maxL, maxV, appendV, St.elems, roomy, rowOf, rowS, isStr, esz, tdOf, convV, buildV, fillV, partsV, okParts, fillL, D.whole, D.demoteC, D.demote, demoteL, D.global, D.flat, D.leaf, D.cells, TI.agg, TD.rowish, callOpV, moveL, CC, keepB, St.borrowL, St.borrow, D.isLsl, adoptR, adoptC, adoptCL, adoptL, adopt, List.toArray, Array.toList, Nat.reduceEqDiff, Nat.reduceAdd, Nat.reduceSub, Nat.reduceMul, Nat.reduceLeDiff, Nat.reduceLT, reduceIte, reduceCtorEq, forall_const, imp_self, Int.reduceNeg, Int.reduceLT, Int.reduceLE, Int.reduceGT, Int.reduceGE, Int.reduceAdd, Int.reduceSub, Int.reduceMul, Int.reduceToNat, Int.reduceEq, ne_eq, eq_self]
    all_goals rfl
  rintro x st' ⟨rfl, ρ, i, rfl, h1, h2, h3, r0, r1, r2, r8, r9⟩
  refine ⟨i, h1, h2, h3, ?_⟩
  have g1 := pnat i
  rcases Nat.lt_or_ge i ks.length with h | h
  · have g0 : (i : Int) < ks.length := by omega
    have e1 := str_get h
    have c1 := c55 hC (ks.getD i []) key
    unfold cmpS at c1
    rw [h3 i (Nat.le_refl _) h, if_neg (by decide)] at c1
    rw [decide_eq_true h, Bool.true_and]
    cases h4 : lt key (ks.getD i []) with
    | true =>
      rw [h4, if_pos rfl] at c1
      have e2 : (ks.getD i [] == key) = false := by
        rw [beq_eq_false_iff_ne]
        rintro e
        rw [e, lt_irrefl] at h4; cases h4
      rw [e2]
      simp only [r0, r1, r2, r8, r9, g0, g1, e1, c1, Int.toNat_natCast, T3, T9, T109, T132, EL, e_finWf, e_finWt, e_finMN, e_finMX, retM, meltV, tupV, D.asBox, D.row1, D.freeR, D.freeO, List.replicate_succ, stepD, accs, accP, accW, simpleOp, isAl, isExt, flipD, D.fresh1, D.row, D.plain, D.plain.plainL, St.close, St.close1, St.borrow, retV, resV, resL, outCL, outC, outL, outD, wantedV, opV, An.mid, thawV, St.settle, D.plainU, prune, envOf, get, put, eval, evalT, nz, argsV, capsV, ofV, binV, binV.aggV, unV, intV, eqOp, isConst, natV, optV, loadV, loadC, storeV, setC, St.at_, partV, partTy, indexAddrV, fieldAddrV, sliceV, sliceV.rowSl, sliceV.strSl, bounds, cutP, builtinV, lenV, maxL, maxV, appendV, St.elems, roomy, rowOf, rowS, isStr, esz, tdOf, convV, buildV, fillV, partsV, okParts, fillL, D.whole, D.demoteC, D.demote, demoteL, D.global, D.flat, D.leaf, D.cells, TI.agg, TD.rowish, callOpV, moveL, CC, keepB, St.borrowL, St.borrow, D.isLsl, adoptR, adoptC, adoptCL, adoptL, adopt, List.toArray, Array.toList, Nat.reduceEqDiff, Nat.reduceAdd, Nat.reduceSub, Nat.reduceMul, Nat.reduceLeDiff, Nat.reduceLT, reduceIte, reduceCtorEq, forall_const, imp_self, Int.reduceNeg, Int.reduceLT, Int.reduceLE, Int.reduceGT, Int.reduceGE, Int.reduceAdd, Int.reduceSub, Int.reduceMul, Int.reduceToNat, Int.reduceEq, ne_eq, eq_self]
    | false =>
      rw [h4, if_neg (by decide)] at c1
      have e2 : (ks.getD i [] == key) = true := by rw [lt_total (h3 i (Nat.le_refl _) h) h4]; simp
      rw [e2]
      simp only [r0, r1, r2, r8, r9, g0, g1, e1, c1, Int.toNat_natCast, T3, T9, T109, T132, EL, e_finWf, e_finWt, e_finMN, e_finMX, retM, meltV, tupV, D.asBox, D.row1, D.freeR, D.freeO, List.replicate_succ, stepD, accs, accP, accW, simpleOp, isAl, isExt, flipD, D.fresh1, D.row, D.plain, D.plain.plainL, St.close, St.close1, St.borrow, retV, resV, resL, outCL, outC, outL, outD, wantedV, opV, An.mid, thawV, St.settle, D.plainU, prune, envOf, get, put, eval, evalT, nz, argsV, capsV, ofV, binV, binV.aggV, unV, intV, eqOp, isConst, natV, optV, loadV, loadC, storeV, setC, St.at_, partV, partTy, indexAddrV, fieldAddrV, sliceV, sliceV.rowSl, sliceV.strSl, bounds, cutP, builtinV, lenV, maxL, maxV, appendV, St.elems, roomy, rowOf, rowS, isStr, esz, tdOf, convV, buildV, fillV, partsV, okParts, fillL, D.whole, D.demoteC, D.demote, demoteL, D.global, D.flat, D.leaf, D.cells, TI.agg, TD.rowish, callOpV, moveL, CC, keepB, St.borrowL, St.borrow, D.isLsl, adoptR, adoptC, adoptCL, adoptL, adopt, List.toArray, Array.toList, Nat.reduceEqDiff, Nat.reduceAdd, Nat.reduceSub, Nat.reduceMul, Nat.reduceLeDiff, Nat.reduceLT, reduceIte, reduceCtorEq, forall_const, imp_self, Int.reduceNeg, Int.reduceLT, Int.reduceLE, Int.reduceGT, Int.reduceGE, Int.reduceAdd, Int.reduceSub, Int.reduceMul, Int.reduceToNat, Int.reduceEq, ne_eq, eq_self]
  · have g0 : ¬ (i : Int) < ks.length := by omega
    rw [decide_eq_false (by omega), Bool.false_and]
    simp only [r0, r1, r2, r8, r9, g0, g1, Int.toNat_natCast, T3, T9, T109, T132, EL, e_finWf, e_finWt, e_finMN, e_finMX, retM, meltV, tupV, D.asBox, D.row1, D.freeR, D.freeO, List.replicate_succ, stepD, accs, accP, accW, simpleOp, isAl, isExt, flipD, D.fresh1, D.row, D.plain, D.plain.plainL, St.close, St.close1, St.borrow, retV, resV, resL, outCL, outC, outL, outD, wantedV, opV, An.mid, thawV, St.settle, D.plainU, prune, envOf, get, put, eval, evalT, nz, argsV, capsV, ofV, binV, binV.aggV, unV, intV, eqOp, isConst, natV, optV, loadV, loadC, storeV, setC, St.at_, partV, partTy, indexAddrV, fieldAddrV, sliceV, sliceV.rowSl, sliceV.strSl, bounds, cutP, builtinV, lenV, maxL, maxV, appendV, St.elems, roomy, rowOf, rowS, isStr, esz, tdOf, convV, buildV, fillV, partsV, okParts, fillL, D.whole, D.demoteC, D.demote, demoteL, D.global, D.flat, D.leaf, D.cells, TI.agg, TD.rowish, callOpV, moveL, CC, keepB, St.borrowL, St.borrow, D.isLsl, adoptR, adoptC, adoptCL, adoptL, adopt, List.toArray, Array.toList, Nat.reduceEqDiff, Nat.reduceAdd, Nat.reduceSub, Nat.reduceMul, Nat.reduceLeDiff, Nat.reduceLT, reduceIte, reduceCtorEq, forall_const, imp_self, Int.reduceNeg, Int.reduceLT, Int.reduceLE, Int.reduceGT, Int.reduceGE, Int.reduceAdd, Int.reduceSub, Int.reduceMul, Int.reduceToNat, Int.reduceEq, ne_eq, eq_self]

set_option maxRecDepth 10000 in
theorem run83 (hC : Lib09A C) (ks : List Ky) (key : Ky) (hl : ks.length ≤ 100000) (hs : sortK ks) (B : Hp) : ∃ n, n ≤ ks.length ∧ (0 < n → (lt (ks.getD (n - 1) []) key || ks.getD (n - 1) [] == key) = true) ∧ (n < ks.length → (lt (ks.getD n []) key || ks.getD n [] == key) = false) ∧
    runV T C fi83 [strR ks .none, .str key] B = some (.int .i64 (n : Nat), B) := by
  obtain ⟨i, h1, h2, h3, h4⟩ := run97 hC ks key hl hs B
  have c1 := hC.f97 _ _ _ h4
  cases hx : (decide (i < ks.length) && (ks.getD i [] == key)) with
  | true =>
    rw [hx] at c1
    simp only [Bool.and_eq_true, decide_eq_true_eq] at hx
    refine ⟨i + 1, by omega, fun _ => ?_, fun h => ?_, ?_⟩
    · rw [Nat.add_sub_cancel, hx.2, Bool.or_true]
    · have e : ks.getD i [] = key := by simpa using hx.2
      have h5 := hs i (i + 1) (by omega) h
      rw [e] at h5
      rw [lt_asymm h5]
      have : (ks.getD (i + 1) [] == key) = false := by
        rw [beq_eq_false_iff_ne]
        intro e2
        rw [e2, lt_irrefl] at h5; cases h5
      rw [this]; rfl
    · rw [e_run _ _ _ rfl]
      have w1 : IntKind.i64.wrap ((i : Int) + 1) = ((i + 1 : Nat) : Int) := by rw [wrapI (by omega) (by omega)]; rfl
      simp only [fi83, Tryd.f83, an83, c1, w1, T3, EL, e_finWf, e_finWt, e_finMN, e_finMX, retM, meltV, tupV, D.asBox, D.row1, D.freeR, D.freeO, List.replicate_succ, stepD, accs, accP, accW, simpleOp, isAl, isExt, flipD, D.fresh1, D.row, D.plain, D.plain.plainL, St.close, St.close1, St.borrow, retV, resV, resL, outCL, outC, outL, outD, wantedV, opV, An.mid, thawV, St.settle, D.plainU, prune, envOf, get, put, eval, evalT, nz, argsV, capsV, ofV, binV, binV.aggV, unV, intV, eqOp, isConst, natV, optV, loadV, loadC, storeV, setC, St.at_, partV, partTy, indexAddrV, fieldAddrV, sliceV, sliceV.rowSl, sliceV.strSl, bounds, cutP, builtinV, lenV, maxL, maxV, appendV, St.elems, roomy, rowOf, rowS, isStr, esz, tdOf, convV, buildV, fillV, partsV, okParts, fillL, D.whole, D.demoteC, D.demote, demoteL, D.global, D.flat, D.leaf, D.cells, TI.agg, TD.rowish, callOpV, moveL, CC, keepB, St.borrowL, St.borrow, D.isLsl, adoptR, adoptC, adoptCL, adoptL, adopt, List.toArray, Array.toList, Nat.reduceEqDiff, Nat.reduceAdd, Nat.reduceSub, Nat.reduceMul, Nat.reduceLeDiff, Nat.reduceLT, reduceIte, reduceCtorEq, forall_const, imp_self, Int.reduceNeg, Int.reduceLT, Int.reduceLE, Int.reduceGT, Int.reduceGE, Int.reduceAdd, Int.reduceSub, Int.reduceMul, Int.reduceToNat, Int.reduceEq, ne_eq, eq_self]
  | false =>
    rw [hx] at c1
    refine ⟨i, h1, fun h => ?_, fun h => ?_, ?_⟩
    · rw [h2 (i - 1) (by omega)]; rfl
    · rw [h3 i (Nat.le_refl _) h]
      rw [decide_eq_true h, Bool.true_and] at hx
      rw [hx]; rfl
    · rw [e_run _ _ _ rfl]
      simp only [fi83, Tryd.f83, an83, c1, T3, EL, e_finWf, e_finWt, e_finMN, e_finMX, retM, meltV, tupV, D.asBox, D.row1, D.freeR, D.freeO, List.replicate_succ, stepD, accs, accP, accW, simpleOp, isAl, isExt, flipD, D.fresh1, D.row, D.plain, D.plain.plainL, St.close, St.close1, St.borrow, retV, resV, resL, outCL, outC, outL, outD, wantedV, opV, An.mid, thawV, St.settle, D.plainU, prune, envOf, get, put, eval, evalT, nz, argsV, capsV, ofV, binV, binV.aggV, unV, intV, eqOp, isConst, natV, optV, loadV, loadC, storeV, setC, St.at_, partV, partTy, indexAddrV, fieldAddrV, sliceV, sliceV.rowSl, sliceV.strSl, bounds, cutP, builtinV, lenV, maxL, maxV, appendV, St.elems, roomy, rowOf, rowS, isStr, esz, tdOf, convV, buildV, fillV, partsV, okParts, fillL, D.whole, D.demoteC, D.demote, demoteL, D.global, D.flat, D.leaf, D.cells, TI.agg, TD.rowish, callOpV, moveL, CC, keepB, St.borrowL, St.borrow, D.isLsl, adoptR, adoptC, adoptCL, adoptL, adopt, List.toArray, Array.toList, Nat.reduceEqDiff, Nat.reduceAdd, Nat.reduceSub, Nat.reduceMul, Nat.reduceLeDiff, Nat.reduceLT, reduceIte, reduceCtorEq, forall_const, imp_self, Int.reduceNeg, Int.reduceLT, Int.reduceLE, Int.reduceGT, Int.reduceGE, Int.reduceAdd, Int.reduceSub, Int.reduceMul, Int.reduceToNat, Int.reduceEq, ne_eq, eq_self]
theorem c83 (hC : Lib09A C) (ks : List Ky) (key : Ky) (hl : ks.length ≤ 100000) (hs : sortK ks) (B : Hp) : ∃ n, n ≤ ks.length ∧ (0 < n → (lt (ks.getD (n - 1) []) key || ks.getD (n - 1) [] == key) = true) ∧ (n < ks.length → (lt (ks.getD n []) key || ks.getD n [] == key) = false) ∧
    C 83 [.vec 1 (ks.map D.str) .none, .str key] B = some (.int .i64 (n : Nat), B) := by
  obtain ⟨n, h1, h2, h3, h4⟩ := run83 hC ks key hl hs B
  exact ⟨n, h1, h2, h3, hC.f83 _ _ _ h4⟩

end Go.Proofs.YtfkhijjabkhmmaaDoor.V
