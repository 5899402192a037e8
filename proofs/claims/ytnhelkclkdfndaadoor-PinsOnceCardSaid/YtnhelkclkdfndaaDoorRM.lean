/-
Layer 18: PinsHold: the loop.
-/
import Derived.Test.YtnhelkclkdfndaaDoorRK
namespace Go.Proofs.YtnhelkclkdfndaaDoor.V
open Go Go.RowKit
set_option linter.unusedSimpArgs false
set_option linter.unusedVariables false

variable {C : Callees}

def st4 (n : Nat) (l l2 : List Pn) (sq : Nat) (s : Nat → Nat) (old : Nat) (k : Nat) : St := ⟨[(1, .int .u64 (sq : Nat)), (5, .lptr 0 0), (7, .lptr 1 0), (8, .lptr 2 0), (11, .lptr 3 0), (12, .nili), (13, .lptr 4 0), (14, .nili), (15, .int .u64 (old : Nat)), (16, .bool true), (17, .int .i64 (k : Nat))],
  [some (nums .u64 16 s), some [.int .u64 (n : Nat), .vec 18 (l.map pnD) (.own 0)], some [.int .u64 (n + 1 : Nat), .vec 18 (l2.map pnD) (.own 1)], some [.int .u64 (n + 1 : Nat), .vec 18 (l.map pnD) (.own 2)], some (.int .u64 (n + 1 : Nat) :: .int .u64 (sq : Nat) :: nums .u64 16 s)], [true, true, true], []⟩
set_option maxRecDepth 20000 in
set_option maxHeartbeats 2000000 in
theorem loop4 (C : Callees) (n : Nat) (l l2 : List Pn) (sq : Nat) (s : Nat → Nat) (old : Nat) (hl : l2.length ≤ 1000) (hm : ∀ a, a < l2.length → old ≤ sqP l2 a) (st : St) (hst : an4.at_ (some 11) st = st4 n l l2 sq s old 0) :
    ∃ x st', loopC T an4 C lp4_0 st = some (x, st') ∧ x = .exit 0 ∧ ∃ ρ, st' = ⟨ρ, (st4 n l l2 sq s old 0).L, [true, true, true], []⟩ ∧ get ρ 1 = .int .u64 (sq : Nat) ∧ get ρ 5 = .lptr 0 0 ∧ get ρ 7 = .lptr 1 0 ∧ get ρ 8 = .lptr 2 0 ∧ get ρ 11 = .lptr 3 0 ∧ get ρ 12 = .nili ∧ get ρ 13 = .lptr 4 0 ∧ get ρ 14 = .nili ∧ get ρ 15 = .int .u64 (old : Nat) ∧ get ρ 16 = .bool true := by
  refine loop_rule (st4 n l l2 sq s old) (fun k => k ≤ l2.length) (fun k => l2.length - k) _ ?_ 0 st hst (Nat.zero_le _)
  intro k hk
  simp only [st4]
  rcases Nat.lt_or_ge k l2.length with h | h
  · left
    have g0 : (k : Int) < l2.length := by omega
    have g1 := pnat k
    have w1 : IntKind.i64.wrap ((k : Int) + 1) = ((k + 1 : Nat) : Int) := by rw [wrapI (by omega) (by omega)]; rfl
    have e1 := pn_get h
    have h1 : ¬ ((l2.getD k default).sq : Int) < (old : Nat) := by have := hm k h; unfold sqP at this; omega
    refine ⟨k + 1, ?_, by omega, by omega⟩
    simp only [st4, lp4_0, subC, atC, Tryd.f4, an4, g0, g1, w1, e1, h1, Int.toNat_natCast, AL, T3, T22, T23, T25, T26, T28, T30, T33, T42, T44, T48, EL, e_finWf, e_finWt, e_finMN, e_finMX, retM, meltV, tupV, D.asBox, D.row1, D.freeR, D.freeO, List.replicate_succ, stepD, accs, accP, accW, simpleOp, isAl, isExt, flipD, D.fresh1, D.row, D.plain, D.plain.plainL, St.close, St.close1, St.borrow, retV, resV, resL, outCL, outC, outL, outD, wantedV, opV, An.mid, thawV, St.settle, D.plainU, prune, envOf, get, put, eval, evalT, nz, argsV, capsV, ofV, binV, binV.aggV, unV, intV, eqOp, isConst, natV, optV, loadV, loadC, storeV, setC, St.at_, partV, partTy, indexAddrV, fieldAddrV, sliceV, sliceV.rowSl, sliceV.strSl, bounds, cutP, builtinV, lenV, maxL, maxV, appendV, St.elems, roomy, rowOf, rowS, isStr, esz, tdOf, convV, buildV, fillV, partsV, okParts, fillL, D.whole, D.demoteC, D.demote, demoteL, D.global, D.flat, D.leaf, D.cells, TI.agg, TD.rowish, callOpV, moveL, CC, keepB, St.borrowL, St.borrow, D.isLsl, adoptR, adoptC, adoptCL, adoptL, adopt, List.toArray, Array.toList, Nat.reduceEqDiff, Nat.reduceAdd, Nat.reduceSub, Nat.reduceMul, Nat.reduceLeDiff, Nat.reduceLT, reduceIte, reduceCtorEq, forall_const, imp_self, Int.reduceNeg, Int.reduceLT, Int.reduceLE, Int.reduceGT, Int.reduceGE, Int.reduceAdd, Int.reduceSub, Int.reduceMul, Int.reduceToNat, Int.reduceEq, ne_eq, eq_self]
    refine ⟨_, rfl, ?_⟩
    show an4.at_ (some 11) _ = _
    simp only [an4, ren_map, toks_map, boxes_map, AL, An.at_, tidyV, tidyW, tidyB, tidyT, sift, envBoxes, envToks, conToks, D.toks, D.tok1, toksL, D.boxes, D.box1, boxesL, memN, posN, renE, D.ren, D.ren1, renL, renB, St.content, St.boxOk, St.tokOk, trues, T3, T22, T23, T25, T26, T28, T30, T33, T42, T44, T48, EL, e_finWf, e_finWt, e_finMN, e_finMX, retM, meltV, tupV, D.asBox, D.row1, D.freeR, D.freeO, List.replicate_succ, stepD, accs, accP, accW, simpleOp, isAl, isExt, flipD, D.fresh1, D.row, D.plain, D.plain.plainL, St.close, St.close1, St.borrow, retV, resV, resL, outCL, outC, outL, outD, wantedV, opV, An.mid, thawV, St.settle, D.plainU, prune, envOf, get, put, eval, evalT, nz, argsV, capsV, ofV, binV, binV.aggV, unV, intV, eqOp, isConst, natV, optV, loadV, loadC, storeV, setC, St.at_, partV, partTy, indexAddrV, fieldAddrV, sliceV, sliceV.rowSl, sliceV.strSl, bounds, cutP, builtinV, lenV, maxL, maxV, appendV, St.elems, roomy, rowOf, rowS, isStr, esz, tdOf, convV, buildV, fillV, partsV, okParts, fillL, D.whole, D.demoteC, D.demote, demoteL, D.global, D.flat, D.leaf, D.cells, TI.agg, TD.rowish, callOpV, moveL, CC, keepB, St.borrowL, St.borrow, D.isLsl, adoptR, adoptC, adoptCL, adoptL, adopt, List.toArray, Array.toList, Nat.reduceEqDiff, Nat.reduceAdd, Nat.reduceSub, Nat.reduceMul, Nat.reduceLeDiff, Nat.reduceLT, reduceIte, reduceCtorEq, forall_const, imp_self, Int.reduceNeg, Int.reduceLT, Int.reduceLE, Int.reduceGT, Int.reduceGE, Int.reduceAdd, Int.reduceSub, Int.reduceMul, Int.reduceToNat, Int.reduceEq, ne_eq, eq_self]
  · right
    obtain rfl : k = l2.length := by omega
    have g0 : ¬ ((l2.length : Nat) : Int) < l2.length := by omega
    simp only [st4, lp4_0, subC, atC, Tryd.f4, an4, g0, T3, T22, T23, T25, T26, T28, T30, T33, T42, T44, T48, EL, e_finWf, e_finWt, e_finMN, e_finMX, retM, meltV, tupV, D.asBox, D.row1, D.freeR, D.freeO, List.replicate_succ, stepD, accs, accP, accW, simpleOp, isAl, isExt, flipD, D.fresh1, D.row, D.plain, D.plain.plainL, St.close, St.close1, St.borrow, retV, resV, resL, outCL, outC, outL, outD, wantedV, opV, An.mid, thawV, St.settle, D.plainU, prune, envOf, get, put, eval, evalT, nz, argsV, capsV, ofV, binV, binV.aggV, unV, intV, eqOp, isConst, natV, optV, loadV, loadC, storeV, setC, St.at_, partV, partTy, indexAddrV, fieldAddrV, sliceV, sliceV.rowSl, sliceV.strSl, bounds, cutP, builtinV, lenV, maxL, maxV, appendV, St.elems, roomy, rowOf, rowS, isStr, esz, tdOf, convV, buildV, fillV, partsV, okParts, fillL, D.whole, D.demoteC, D.demote, demoteL, D.global, D.flat, D.leaf, D.cells, TI.agg, TD.rowish, callOpV, moveL, CC, keepB, St.borrowL, St.borrow, D.isLsl, adoptR, adoptC, adoptCL, adoptL, adopt, List.toArray, Array.toList, Nat.reduceEqDiff, Nat.reduceAdd, Nat.reduceSub, Nat.reduceMul, Nat.reduceLeDiff, Nat.reduceLT, reduceIte, reduceCtorEq, forall_const, imp_self, Int.reduceNeg, Int.reduceLT, Int.reduceLE, Int.reduceGT, Int.reduceGE, Int.reduceAdd, Int.reduceSub, Int.reduceMul, Int.reduceToNat, Int.reduceEq, ne_eq, eq_self]
    exact ⟨_, _, rfl, by simp, rfl, _, rfl, rfl, rfl, rfl, rfl, rfl, rfl, rfl, rfl, rfl, rfl⟩

end Go.Proofs.YtnhelkclkdfndaaDoor.V
