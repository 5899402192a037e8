/-
Layer 18: PinsHold.
-/
import Derived.Test.YtnhelkclkdfndaaDoorRH
namespace Go.Proofs.YtnhelkclkdfndaaDoor.V
open Go Go.RowKit
set_option linter.unusedSimpArgs false
set_option linter.unusedVariables false

/-! warren/warrenlaw18.PinsHold -/
def an4 : An := ⟨fun | 11 => some [1, 5, 7, 8, 11, 12, 13, 14, 15, 16, 17] | _ => .none, fun _ => 0, fun _ => false, fun _ => .none⟩
noncomputable def fi4 : FI := ⟨3, 151, Tryd.f4.body.getD .skip, Tryd.f4.results.toList, an4, false, false, false⟩
theorem ok4 : FnOk Tryd.prog 4 fi4 := ⟨⟨Tryd.f4, Tryd.func4, by kernel_rfl, rfl, rfl, rfl⟩, by decide, by kernel_rfl, fun h => by cases h⟩
noncomputable def lp4_0 : Code := subC [1, 1, 1, 1, 1, 1, 1, 1, 0, 1, 0, 0] (Tryd.f4.body.getD .skip)   -- head 11 keep [1, 5, 7, 8, 11, 12, 13, 14, 15, 16, 17]

variable {C : Callees}

theorem c14 (hC : Known18 C) : C 14 [] [] = some (.bool true, []) := hC.f14 _ _ _ (run14 hC)

set_option maxRecDepth 20000 in
set_option maxHeartbeats 4000000 in
/-- Where they may not be, or there is no room. -/
theorem run4_no (hC : Known18 C) (n : Nat) (l : List Pn) (hl : l.length * 144 ≤ 140737488351232) (sq : Nat) (s : Nat → Nat) (h : ¬ (l.length ≤ 20 ∧ opE n l = 0)) : runV T C fi4 [psD n l, .int .u64 (sq : Nat), .agg (nums .u64 16 s)] [] = some (.bool true, []) := by
  rw [e_run _ _ _ rfl]
  have hL := hC.toLib18F
  have c0 := c14 hC
  have c1 := c15 hL n l hl []
  by_cases h1 : l.length > 20
  · have g1 : (l.length : Int) > 20 := by omega
    simp only [fi4, Tryd.f4, an4, c0, c1, g1, sC_nil, sC_zero, sC_succ, AL, T3, T22, T23, T25, T26, T28, T30, T33, T42, T44, T48, EL, e_finWf, e_finWt, e_finMN, e_finMX, retM, meltV, tupV, D.asBox, D.row1, D.freeR, D.freeO, List.replicate_succ, stepD, accs, accP, accW, simpleOp, isAl, isExt, flipD, D.fresh1, D.row, D.plain, D.plain.plainL, St.close, St.close1, St.borrow, retV, resV, resL, outCL, outC, outL, outD, wantedV, opV, An.mid, thawV, St.settle, D.plainU, prune, envOf, get, put, eval, evalT, nz, argsV, capsV, ofV, binV, binV.aggV, unV, intV, eqOp, isConst, natV, optV, loadV, loadC, storeV, St.at_, partV, partTy, indexAddrV, fieldAddrV, sliceV, sliceV.rowSl, sliceV.strSl, bounds, cutP, builtinV, lenV, maxL, maxV, appendV, St.elems, roomy, rowOf, rowS, isStr, esz, tdOf, convV, buildV, fillV, partsV, okParts, fillL, D.whole, D.demoteC, D.demote, demoteL, D.global, D.flat, D.leaf, D.cells, TI.agg, TD.rowish, callOpV, moveL, CC, keepB, St.borrowL, St.borrow, D.isLsl, adoptR, adoptC, adoptCL, adoptL, adopt, List.toArray, Array.toList, Nat.reduceEqDiff, Nat.reduceAdd, Nat.reduceSub, Nat.reduceMul, Nat.reduceLeDiff, Nat.reduceLT, reduceIte, reduceCtorEq, forall_const, imp_self, Int.reduceNeg, Int.reduceLT, Int.reduceLE, Int.reduceGT, Int.reduceGE, Int.reduceAdd, Int.reduceSub, Int.reduceMul, Int.reduceToNat, Int.reduceEq, ne_eq, eq_self]
    done
  have g1 : ¬ (l.length : Int) > 20 := by omega
  have c2 := c28 hL.toLib18A n l (by omega) []
  cases hm : mayP n l with
  | false =>
    rw [hm, if_neg (by decide), errD_pos (by decide)] at c2
    simp only [fi4, Tryd.f4, an4, c0, c1, c2, g1, sC_nil, sC_zero, sC_succ, AL, T3, T22, T23, T25, T26, T28, T30, T33, T42, T44, T48, EL, e_finWf, e_finWt, e_finMN, e_finMX, retM, meltV, tupV, D.asBox, D.row1, D.freeR, D.freeO, List.replicate_succ, stepD, accs, accP, accW, simpleOp, isAl, isExt, flipD, D.fresh1, D.row, D.plain, D.plain.plainL, St.close, St.close1, St.borrow, retV, resV, resL, outCL, outC, outL, outD, wantedV, opV, An.mid, thawV, St.settle, D.plainU, prune, envOf, get, put, eval, evalT, nz, argsV, capsV, ofV, binV, binV.aggV, unV, intV, eqOp, isConst, natV, optV, loadV, loadC, storeV, St.at_, partV, partTy, indexAddrV, fieldAddrV, sliceV, sliceV.rowSl, sliceV.strSl, bounds, cutP, builtinV, lenV, maxL, maxV, appendV, St.elems, roomy, rowOf, rowS, isStr, esz, tdOf, convV, buildV, fillV, partsV, okParts, fillL, D.whole, D.demoteC, D.demote, demoteL, D.global, D.flat, D.leaf, D.cells, TI.agg, TD.rowish, callOpV, moveL, CC, keepB, St.borrowL, St.borrow, D.isLsl, adoptR, adoptC, adoptCL, adoptL, adopt, List.toArray, Array.toList, Nat.reduceEqDiff, Nat.reduceAdd, Nat.reduceSub, Nat.reduceMul, Nat.reduceLeDiff, Nat.reduceLT, reduceIte, reduceCtorEq, forall_const, imp_self, Int.reduceNeg, Int.reduceLT, Int.reduceLE, Int.reduceGT, Int.reduceGE, Int.reduceAdd, Int.reduceSub, Int.reduceMul, Int.reduceToNat, Int.reduceEq, ne_eq, eq_self]
    done
  | true =>
    rw [hm, if_pos rfl, errD_zero] at c2
    have he : opE n l ≠ 0 := fun e => h ⟨by omega, e⟩
    have h7 : opE n l = 7 ∧ (l.length = 8 ∨ n = 4611686018427387904) := by
      unfold opE at he ⊢
      rw [hm, if_pos rfl] at he ⊢
      by_cases hx : l.length = 8 ∨ n = 4611686018427387904
      · exact ⟨if_pos hx, hx⟩
      · rw [if_neg hx] at he; exact absurd rfl he
    have c3 : C 16 [.agg [.int .u64 (n : Nat), .vec 18 (l.map pnD) .none], .int .u64 (sq : Nat), .agg (nums .u64 16 s)] [] = some (.tuple [.agg [.int .u64 0, .vec 18 [] .fresh], .int .u64 0, .iface 163 (.int .i64 7)], []) := by
      have := hL.f16 _ _ _ (run16_err hL.toLib18D n l (by omega) sq s he [])
      rw [h7.1, errD_pos (by decide)] at this
      exact this
    have n7 := num7 hC []
    by_cases h8 : (l.length : Int) = 8
    · simp only [fi4, Tryd.f4, an4, c0, c1, c2, c3, g1, h8, n7, nlit18, sC_nil, sC_zero, sC_succ, AL, T3, T22, T23, T25, T26, T28, T30, T33, T42, T44, T48, EL, e_finWf, e_finWt, e_finMN, e_finMX, retM, meltV, tupV, D.asBox, D.row1, D.freeR, D.freeO, List.replicate_succ, stepD, accs, accP, accW, simpleOp, isAl, isExt, flipD, D.fresh1, D.row, D.plain, D.plain.plainL, St.close, St.close1, St.borrow, retV, resV, resL, outCL, outC, outL, outD, wantedV, opV, An.mid, thawV, St.settle, D.plainU, prune, envOf, get, put, eval, evalT, nz, argsV, capsV, ofV, binV, binV.aggV, unV, intV, eqOp, isConst, natV, optV, loadV, loadC, storeV, St.at_, partV, partTy, indexAddrV, fieldAddrV, sliceV, sliceV.rowSl, sliceV.strSl, bounds, cutP, builtinV, lenV, maxL, maxV, appendV, St.elems, roomy, rowOf, rowS, isStr, esz, tdOf, convV, buildV, fillV, partsV, okParts, fillL, D.whole, D.demoteC, D.demote, demoteL, D.global, D.flat, D.leaf, D.cells, TI.agg, TD.rowish, callOpV, moveL, CC, keepB, St.borrowL, St.borrow, D.isLsl, adoptR, adoptC, adoptCL, adoptL, adopt, List.toArray, Array.toList, Nat.reduceEqDiff, Nat.reduceAdd, Nat.reduceSub, Nat.reduceMul, Nat.reduceLeDiff, Nat.reduceLT, reduceIte, reduceCtorEq, forall_const, imp_self, Int.reduceNeg, Int.reduceLT, Int.reduceLE, Int.reduceGT, Int.reduceGE, Int.reduceAdd, Int.reduceSub, Int.reduceMul, Int.reduceToNat, Int.reduceEq, ne_eq, eq_self]
      done
    · have h9 : (n : Int) = 4611686018427387904 := by rcases h7.2 with hx | hx <;> omega
      rw [h9] at c1 c2 c3
      simp only [fi4, Tryd.f4, an4, c0, c1, c2, c3, g1, h8, h9, n7, nlit18, sC_nil, sC_zero, sC_succ, AL, T3, T22, T23, T25, T26, T28, T30, T33, T42, T44, T48, EL, e_finWf, e_finWt, e_finMN, e_finMX, retM, meltV, tupV, D.asBox, D.row1, D.freeR, D.freeO, List.replicate_succ, stepD, accs, accP, accW, simpleOp, isAl, isExt, flipD, D.fresh1, D.row, D.plain, D.plain.plainL, St.close, St.close1, St.borrow, retV, resV, resL, outCL, outC, outL, outD, wantedV, opV, An.mid, thawV, St.settle, D.plainU, prune, envOf, get, put, eval, evalT, nz, argsV, capsV, ofV, binV, binV.aggV, unV, intV, eqOp, isConst, natV, optV, loadV, loadC, storeV, St.at_, partV, partTy, indexAddrV, fieldAddrV, sliceV, sliceV.rowSl, sliceV.strSl, bounds, cutP, builtinV, lenV, maxL, maxV, appendV, St.elems, roomy, rowOf, rowS, isStr, esz, tdOf, convV, buildV, fillV, partsV, okParts, fillL, D.whole, D.demoteC, D.demote, demoteL, D.global, D.flat, D.leaf, D.cells, TI.agg, TD.rowish, callOpV, moveL, CC, keepB, St.borrowL, St.borrow, D.isLsl, adoptR, adoptC, adoptCL, adoptL, adopt, List.toArray, Array.toList, Nat.reduceEqDiff, Nat.reduceAdd, Nat.reduceSub, Nat.reduceMul, Nat.reduceLeDiff, Nat.reduceLT, reduceIte, reduceCtorEq, forall_const, imp_self, Int.reduceNeg, Int.reduceLT, Int.reduceLE, Int.reduceGT, Int.reduceGE, Int.reduceAdd, Int.reduceSub, Int.reduceMul, Int.reduceToNat, Int.reduceEq, ne_eq, eq_self]
      done

end Go.Proofs.YtnhelkclkdfndaaDoor.V
