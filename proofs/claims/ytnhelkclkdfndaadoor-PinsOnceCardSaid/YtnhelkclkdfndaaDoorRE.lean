/-
Layer 18: one reader more.
-/
import Derived.Test.YtnhelkclkdfndaaDoorRD
namespace Go.Proofs.YtnhelkclkdfndaaDoor.V
open Go Go.RowKit
set_option linter.unusedSimpArgs false
set_option linter.unusedVariables false

/-! warren/pins.Open -/
def an16 : An := ⟨fun _ => .none, fun _ => 0, fun _ => false, fun _ => .none⟩
noncomputable def fi16 : FI := ⟨3, 43, Tryd.f16.body.getD .skip, Tryd.f16.results.toList, an16, false, false, false⟩
theorem ok16 : FnOk Tryd.prog 16 fi16 := ⟨⟨Tryd.f16, Tryd.func16, by kernel_rfl, rfl, rfl, rfl⟩, by decide, by kernel_rfl, fun h => by cases h⟩
structure Lib18D (C : Callees) : Prop extends Lib18C C where
  f16 : Has T C 16 fi16
  pclone : ∀ (l : List Pn) (B : Hp), l.length ≤ 1000 → C 78 [.vec 18 (l.map pnD) .none] B = some (.vec 18 (l.map pnD) .fresh, B)

variable {C : Callees}

/-- The error of one reader more. -/
def opE (n : Nat) (l : List Pn) : Nat := if mayP n l = true then (if l.length = 8 ∨ n = 4611686018427387904 then 7 else 0) else 1

set_option maxRecDepth 20000 in
set_option maxHeartbeats 2000000 in
theorem run17_err (hC : Lib18D C) (n : Nat) (l : List Pn) (hl : l.length ≤ 1000) (sq : Nat) (s : Nat → Nat) (h : opE n l ≠ 0) (B : Hp) : runV T C fi17 [psD n l, .int .u64 (sq : Nat), .agg (nums .u64 16 s)] B = some (.tuple [.agg [.int .u64 0, .vec 18 [] .fresh], .int .u64 0, .int .i64 (opE n l : Nat)], B) := by
  rw [e_run _ _ _ rfl]
  have c1 := c24 hC.toLib18C n l hl
  unfold opE at h ⊢
  cases hm : mayP n l with
  | false =>
    rw [hm] at c1
    rw [if_neg (by decide)]
    simp only [fi17, Tryd.f17, an17, c1, Bool.not_false, AL, T3, T4, T22, T23, T25, T26, T48, EL, e_finWf, e_finWt, e_finMN, e_finMX, retM, meltV, tupV, D.asBox, D.row1, D.freeR, D.freeO, List.replicate_succ, stepD, accs, accP, accW, simpleOp, isAl, isExt, flipD, D.fresh1, D.row, D.plain, D.plain.plainL, St.close, St.close1, St.borrow, retV, resV, resL, outCL, outC, outL, outD, wantedV, opV, An.mid, thawV, St.settle, D.plainU, prune, envOf, get, put, eval, evalT, nz, argsV, capsV, ofV, binV, binV.aggV, unV, intV, eqOp, isConst, natV, optV, loadV, loadC, storeV, setC, St.at_, partV, partTy, indexAddrV, fieldAddrV, sliceV, sliceV.rowSl, sliceV.strSl, bounds, cutP, builtinV, lenV, maxL, maxV, appendV, St.elems, roomy, rowOf, rowS, isStr, esz, tdOf, convV, buildV, fillV, partsV, okParts, fillL, D.whole, D.demoteC, D.demote, demoteL, D.global, D.flat, D.leaf, D.cells, TI.agg, TD.rowish, callOpV, moveL, CC, keepB, St.borrowL, St.borrow, D.isLsl, adoptR, adoptC, adoptCL, adoptL, adopt, List.toArray, Array.toList, Nat.reduceEqDiff, Nat.reduceAdd, Nat.reduceSub, Nat.reduceMul, Nat.reduceLeDiff, Nat.reduceLT, reduceIte, reduceCtorEq, forall_const, imp_self, Int.reduceNeg, Int.reduceLT, Int.reduceLE, Int.reduceGT, Int.reduceGE, Int.reduceAdd, Int.reduceSub, Int.reduceMul, Int.reduceToNat, Int.reduceEq, ne_eq, eq_self]
    rfl
  | true =>
    rw [hm, if_pos rfl] at h
    rw [hm] at c1
    rw [if_pos rfl]
    obtain ⟨_, h8, _, _⟩ := may_sort hm
    by_cases h1 : l.length = 8 ∨ n = 4611686018427387904
    · rw [if_pos h1]
      by_cases h2 : (l.length : Int) > 7
      · simp only [fi17, Tryd.f17, an17, c1, h2, Bool.not_true, AL, T3, T4, T22, T23, T25, T26, T48, EL, e_finWf, e_finWt, e_finMN, e_finMX, retM, meltV, tupV, D.asBox, D.row1, D.freeR, D.freeO, List.replicate_succ, stepD, accs, accP, accW, simpleOp, isAl, isExt, flipD, D.fresh1, D.row, D.plain, D.plain.plainL, St.close, St.close1, St.borrow, retV, resV, resL, outCL, outC, outL, outD, wantedV, opV, An.mid, thawV, St.settle, D.plainU, prune, envOf, get, put, eval, evalT, nz, argsV, capsV, ofV, binV, binV.aggV, unV, intV, eqOp, isConst, natV, optV, loadV, loadC, storeV, setC, St.at_, partV, partTy, indexAddrV, fieldAddrV, sliceV, sliceV.rowSl, sliceV.strSl, bounds, cutP, builtinV, lenV, maxL, maxV, appendV, St.elems, roomy, rowOf, rowS, isStr, esz, tdOf, convV, buildV, fillV, partsV, okParts, fillL, D.whole, D.demoteC, D.demote, demoteL, D.global, D.flat, D.leaf, D.cells, TI.agg, TD.rowish, callOpV, moveL, CC, keepB, St.borrowL, St.borrow, D.isLsl, adoptR, adoptC, adoptCL, adoptL, adopt, List.toArray, Array.toList, Nat.reduceEqDiff, Nat.reduceAdd, Nat.reduceSub, Nat.reduceMul, Nat.reduceLeDiff, Nat.reduceLT, reduceIte, reduceCtorEq, forall_const, imp_self, Int.reduceNeg, Int.reduceLT, Int.reduceLE, Int.reduceGT, Int.reduceGE, Int.reduceAdd, Int.reduceSub, Int.reduceMul, Int.reduceToNat, Int.reduceEq, ne_eq, eq_self]
        rfl
      · have h3 : (n : Int) = 4611686018427387904 := by rcases h1 with h1 | h1 <;> omega
        rw [h3] at c1
        simp only [fi17, Tryd.f17, an17, c1, h2, h3, Bool.not_true, AL, T3, T4, T22, T23, T25, T26, T48, EL, e_finWf, e_finWt, e_finMN, e_finMX, retM, meltV, tupV, D.asBox, D.row1, D.freeR, D.freeO, List.replicate_succ, stepD, accs, accP, accW, simpleOp, isAl, isExt, flipD, D.fresh1, D.row, D.plain, D.plain.plainL, St.close, St.close1, St.borrow, retV, resV, resL, outCL, outC, outL, outD, wantedV, opV, An.mid, thawV, St.settle, D.plainU, prune, envOf, get, put, eval, evalT, nz, argsV, capsV, ofV, binV, binV.aggV, unV, intV, eqOp, isConst, natV, optV, loadV, loadC, storeV, setC, St.at_, partV, partTy, indexAddrV, fieldAddrV, sliceV, sliceV.rowSl, sliceV.strSl, bounds, cutP, builtinV, lenV, maxL, maxV, appendV, St.elems, roomy, rowOf, rowS, isStr, esz, tdOf, convV, buildV, fillV, partsV, okParts, fillL, D.whole, D.demoteC, D.demote, demoteL, D.global, D.flat, D.leaf, D.cells, TI.agg, TD.rowish, callOpV, moveL, CC, keepB, St.borrowL, St.borrow, D.isLsl, adoptR, adoptC, adoptCL, adoptL, adopt, List.toArray, Array.toList, Nat.reduceEqDiff, Nat.reduceAdd, Nat.reduceSub, Nat.reduceMul, Nat.reduceLeDiff, Nat.reduceLT, reduceIte, reduceCtorEq, forall_const, imp_self, Int.reduceNeg, Int.reduceLT, Int.reduceLE, Int.reduceGT, Int.reduceGE, Int.reduceAdd, Int.reduceSub, Int.reduceMul, Int.reduceToNat, Int.reduceEq, ne_eq, eq_self]
        rfl
    · rw [if_neg h1] at h; exact absurd rfl h
set_option maxRecDepth 20000 in
set_option maxHeartbeats 2000000 in
theorem run17_ok (hC : Lib18D C) (n : Nat) (l : List Pn) (sq : Nat) (s : Nat → Nat) (h : opE n l = 0) (B : Hp) : runV T C fi17 [psD n l, .int .u64 (sq : Nat), .agg (nums .u64 16 s)] B = some (.tuple [.agg [.int .u64 (n + 1 : Nat), pnR (l ++ [⟨n + 1, sq, s⟩]) .fresh], .int .u64 (n + 1 : Nat), .int .i64 0], B) := by
  rw [e_run _ _ _ rfl]
  unfold opE at h
  cases hm : mayP n l with
  | false => rw [hm, if_neg (by decide)] at h; cases h
  | true =>
    rw [hm, if_pos rfl] at h
    obtain ⟨_, h8, hn, _⟩ := may_sort hm
    have c1 := c24 hC.toLib18C n l (by omega)
    rw [hm] at c1
    by_cases h1 : l.length = 8 ∨ n = 4611686018427387904
    · rw [if_pos h1] at h; cases h
    · have h2 : ¬ (l.length : Int) > 7 := by omega
      have h3 : ¬ (n : Int) = 4611686018427387904 := by omega
      have w1 : IntKind.u64.wrap ((n : Int) + 1) = ((n + 1 : Nat) : Int) := by rw [wrap_u64 (by omega) (by omega)]; rfl
      have a1 := pn_app l ⟨n + 1, sq, s⟩
      simp only at a1
      have r0 := roomy144 (n := l.length) (by omega)
      have r1 := roomy144 (n := l.length + 1) (by omega)
      generalize l ++ [(⟨n + 1, sq, s⟩ : Pn)] = l2 at a1
      simp only [fi17, Tryd.f17, an17, c1, h2, h3, w1, a1, r0, r1, Bool.not_true, AL, T3, T4, T22, T23, T25, T26, T48, EL, e_finWf, e_finWt, e_finMN, e_finMX, retM, meltV, tupV, D.asBox, D.row1, D.freeR, D.freeO, List.replicate_succ, stepD, accs, accP, accW, simpleOp, isAl, isExt, flipD, D.fresh1, D.row, D.plain, D.plain.plainL, St.close, St.close1, St.borrow, retV, resV, resL, outCL, outC, outL, outD, wantedV, opV, An.mid, thawV, St.settle, D.plainU, prune, envOf, get, put, eval, evalT, nz, argsV, capsV, ofV, binV, binV.aggV, unV, intV, eqOp, isConst, natV, optV, loadV, loadC, storeV, setC, St.at_, partV, partTy, indexAddrV, fieldAddrV, sliceV, sliceV.rowSl, sliceV.strSl, bounds, cutP, builtinV, lenV, maxL, maxV, appendV, St.elems, rowOf, rowS, isStr, esz, tdOf, convV, buildV, fillV, partsV, okParts, fillL, D.whole, D.demoteC, D.demote, demoteL, D.global, D.flat, D.leaf, D.cells, TI.agg, TD.rowish, callOpV, moveL, CC, keepB, St.borrowL, St.borrow, D.isLsl, adoptR, adoptC, adoptCL, adoptL, adopt, List.toArray, Array.toList, Nat.reduceEqDiff, Nat.reduceAdd, Nat.reduceSub, Nat.reduceMul, Nat.reduceLeDiff, Nat.reduceLT, reduceIte, reduceCtorEq, forall_const, imp_self, Int.reduceNeg, Int.reduceLT, Int.reduceLE, Int.reduceGT, Int.reduceGE, Int.reduceAdd, Int.reduceSub, Int.reduceMul, Int.reduceToNat, Int.reduceEq, ne_eq, eq_self]
      rw [dyn_eq]
      · simp only [AL, T3, T4, T22, T23, T25, T26, T48, EL, e_finWf, e_finWt, e_finMN, e_finMX, retM, meltV, tupV, D.asBox, D.row1, D.freeR, D.freeO, List.replicate_succ, stepD, accs, accP, accW, simpleOp, isAl, isExt, flipD, D.fresh1, D.row, D.plain, D.plain.plainL, St.close, St.close1, St.borrow, retV, resV, resL, outCL, outC, outL, outD, wantedV, opV, An.mid, thawV, St.settle, D.plainU, prune, envOf, get, put, eval, evalT, nz, argsV, capsV, ofV, binV, binV.aggV, unV, intV, eqOp, isConst, natV, optV, loadV, loadC, storeV, setC, St.at_, partV, partTy, indexAddrV, fieldAddrV, sliceV, sliceV.rowSl, sliceV.strSl, bounds, cutP, builtinV, lenV, maxL, maxV, appendV, St.elems, rowOf, rowS, isStr, esz, tdOf, convV, buildV, fillV, partsV, okParts, fillL, D.whole, D.demoteC, D.demote, demoteL, D.global, D.flat, D.leaf, D.cells, TI.agg, TD.rowish, callOpV, moveL, CC, keepB, St.borrowL, St.borrow, D.isLsl, adoptR, adoptC, adoptCL, adoptL, adopt, List.toArray, Array.toList, Nat.reduceEqDiff, Nat.reduceAdd, Nat.reduceSub, Nat.reduceMul, Nat.reduceLeDiff, Nat.reduceLT, reduceIte, reduceCtorEq, forall_const, imp_self, Int.reduceNeg, Int.reduceLT, Int.reduceLE, Int.reduceGT, Int.reduceGE, Int.reduceAdd, Int.reduceSub, Int.reduceMul, Int.reduceToNat, Int.reduceEq, ne_eq, eq_self]
        try rfl
      · kernel_rfl

set_option maxRecDepth 20000 in
set_option maxHeartbeats 2000000 in
theorem run16_err (hC : Lib18D C) (n : Nat) (l : List Pn) (hl : l.length ≤ 1000) (sq : Nat) (s : Nat → Nat) (h : opE n l ≠ 0) (B : Hp) : runV T C fi16 [psD n l, .int .u64 (sq : Nat), .agg (nums .u64 16 s)] B = some (.tuple [.agg [.int .u64 0, .vec 18 [] .fresh], .int .u64 0, errD (opE n l)], B) := by
  rw [e_run _ _ _ rfl]
  have c1 := c28 hC.toLib18A n l (by omega)
  unfold opE at h ⊢
  cases hm : mayP n l with
  | false =>
    rw [hm, if_neg (by decide)] at c1
    rw [if_neg (by decide)]
    rw [errD_pos (by decide)] at c1 ⊢
    simp only [fi16, Tryd.f16, an16, c1, AL, T3, T22, T28, T30, T33, T42, T44, T163, EL, e_finWf, e_finWt, e_finMN, e_finMX, retM, meltV, tupV, D.asBox, D.row1, D.freeR, D.freeO, List.replicate_succ, stepD, accs, accP, accW, simpleOp, isAl, isExt, flipD, D.fresh1, D.row, D.plain, D.plain.plainL, St.close, St.close1, St.borrow, retV, resV, resL, outCL, outC, outL, outD, wantedV, opV, An.mid, thawV, St.settle, D.plainU, prune, envOf, get, put, eval, evalT, nz, argsV, capsV, ofV, binV, binV.aggV, unV, intV, eqOp, isConst, natV, optV, loadV, loadC, storeV, setC, St.at_, partV, partTy, indexAddrV, fieldAddrV, sliceV, sliceV.rowSl, sliceV.strSl, bounds, cutP, builtinV, lenV, maxL, maxV, appendV, St.elems, roomy, rowOf, rowS, isStr, esz, tdOf, convV, buildV, fillV, partsV, okParts, fillL, D.whole, D.demoteC, D.demote, demoteL, D.global, D.flat, D.leaf, D.cells, TI.agg, TD.rowish, callOpV, moveL, CC, keepB, St.borrowL, St.borrow, D.isLsl, adoptR, adoptC, adoptCL, adoptL, adopt, List.toArray, Array.toList, Nat.reduceEqDiff, Nat.reduceAdd, Nat.reduceSub, Nat.reduceMul, Nat.reduceLeDiff, Nat.reduceLT, reduceIte, reduceCtorEq, forall_const, imp_self, Int.reduceNeg, Int.reduceLT, Int.reduceLE, Int.reduceGT, Int.reduceGE, Int.reduceAdd, Int.reduceSub, Int.reduceMul, Int.reduceToNat, Int.reduceEq, ne_eq, eq_self]
  | true =>
    rw [hm, if_pos rfl] at h
    rw [hm, if_pos rfl, errD_zero] at c1
    rw [if_pos rfl]
    obtain ⟨_, h8, _, _⟩ := may_sort hm
    by_cases h1 : l.length = 8 ∨ n = 4611686018427387904
    · rw [if_pos h1, errD_pos (by decide)]
      by_cases h2 : (l.length : Int) = 8
      · simp only [fi16, Tryd.f16, an16, c1, h2, AL, T3, T22, T28, T30, T33, T42, T44, T163, EL, e_finWf, e_finWt, e_finMN, e_finMX, retM, meltV, tupV, D.asBox, D.row1, D.freeR, D.freeO, List.replicate_succ, stepD, accs, accP, accW, simpleOp, isAl, isExt, flipD, D.fresh1, D.row, D.plain, D.plain.plainL, St.close, St.close1, St.borrow, retV, resV, resL, outCL, outC, outL, outD, wantedV, opV, An.mid, thawV, St.settle, D.plainU, prune, envOf, get, put, eval, evalT, nz, argsV, capsV, ofV, binV, binV.aggV, unV, intV, eqOp, isConst, natV, optV, loadV, loadC, storeV, setC, St.at_, partV, partTy, indexAddrV, fieldAddrV, sliceV, sliceV.rowSl, sliceV.strSl, bounds, cutP, builtinV, lenV, maxL, maxV, appendV, St.elems, roomy, rowOf, rowS, isStr, esz, tdOf, convV, buildV, fillV, partsV, okParts, fillL, D.whole, D.demoteC, D.demote, demoteL, D.global, D.flat, D.leaf, D.cells, TI.agg, TD.rowish, callOpV, moveL, CC, keepB, St.borrowL, St.borrow, D.isLsl, adoptR, adoptC, adoptCL, adoptL, adopt, List.toArray, Array.toList, Nat.reduceEqDiff, Nat.reduceAdd, Nat.reduceSub, Nat.reduceMul, Nat.reduceLeDiff, Nat.reduceLT, reduceIte, reduceCtorEq, forall_const, imp_self, Int.reduceNeg, Int.reduceLT, Int.reduceLE, Int.reduceGT, Int.reduceGE, Int.reduceAdd, Int.reduceSub, Int.reduceMul, Int.reduceToNat, Int.reduceEq, ne_eq, eq_self]
        rfl
      · have h3 : (n : Int) = 4611686018427387904 := by rcases h1 with h1 | h1 <;> omega
        rw [h3] at c1
        simp only [fi16, Tryd.f16, an16, c1, h2, h3, AL, T3, T22, T28, T30, T33, T42, T44, T163, EL, e_finWf, e_finWt, e_finMN, e_finMX, retM, meltV, tupV, D.asBox, D.row1, D.freeR, D.freeO, List.replicate_succ, stepD, accs, accP, accW, simpleOp, isAl, isExt, flipD, D.fresh1, D.row, D.plain, D.plain.plainL, St.close, St.close1, St.borrow, retV, resV, resL, outCL, outC, outL, outD, wantedV, opV, An.mid, thawV, St.settle, D.plainU, prune, envOf, get, put, eval, evalT, nz, argsV, capsV, ofV, binV, binV.aggV, unV, intV, eqOp, isConst, natV, optV, loadV, loadC, storeV, setC, St.at_, partV, partTy, indexAddrV, fieldAddrV, sliceV, sliceV.rowSl, sliceV.strSl, bounds, cutP, builtinV, lenV, maxL, maxV, appendV, St.elems, roomy, rowOf, rowS, isStr, esz, tdOf, convV, buildV, fillV, partsV, okParts, fillL, D.whole, D.demoteC, D.demote, demoteL, D.global, D.flat, D.leaf, D.cells, TI.agg, TD.rowish, callOpV, moveL, CC, keepB, St.borrowL, St.borrow, D.isLsl, adoptR, adoptC, adoptCL, adoptL, adopt, List.toArray, Array.toList, Nat.reduceEqDiff, Nat.reduceAdd, Nat.reduceSub, Nat.reduceMul, Nat.reduceLeDiff, Nat.reduceLT, reduceIte, reduceCtorEq, forall_const, imp_self, Int.reduceNeg, Int.reduceLT, Int.reduceLE, Int.reduceGT, Int.reduceGE, Int.reduceAdd, Int.reduceSub, Int.reduceMul, Int.reduceToNat, Int.reduceEq, ne_eq, eq_self]
        rfl
    · rw [if_neg h1] at h; exact absurd rfl h
set_option maxRecDepth 20000 in
set_option maxHeartbeats 2000000 in
theorem run16_ok (hC : Lib18D C) (n : Nat) (l : List Pn) (sq : Nat) (s : Nat → Nat) (h : opE n l = 0) (B : Hp) : runV T C fi16 [psD n l, .int .u64 (sq : Nat), .agg (nums .u64 16 s)] B = some (.tuple [.agg [.int .u64 (n + 1 : Nat), pnR (l ++ [⟨n + 1, sq, s⟩]) .fresh], .int .u64 (n + 1 : Nat), .nili], B) := by
  rw [e_run _ _ _ rfl]
  unfold opE at h
  cases hm : mayP n l with
  | false => rw [hm, if_neg (by decide)] at h; cases h
  | true =>
    rw [hm, if_pos rfl] at h
    obtain ⟨_, h8, hn, _⟩ := may_sort hm
    have c1 := c28 hC.toLib18A n l (by omega)
    rw [hm, if_pos rfl, errD_zero] at c1
    by_cases h1 : l.length = 8 ∨ n = 4611686018427387904
    · rw [if_pos h1] at h; cases h
    · have h2 : ¬ (l.length : Int) = 8 := by omega
      have h3 : ¬ (n : Int) = 4611686018427387904 := by omega
      have w1 : IntKind.u64.wrap ((n : Int) + 1) = ((n + 1 : Nat) : Int) := by rw [wrap_u64 (by omega) (by omega)]; rfl
      have c2 := fun B => hC.pclone l B (by omega)
      have a1 := pn_app l ⟨n + 1, sq, s⟩
      simp only at a1
      have r1 := roomy144 (n := l.length + 1) (by omega)
      generalize l ++ [(⟨n + 1, sq, s⟩ : Pn)] = l2 at a1
      simp only [fi16, Tryd.f16, an16, c1, c2, h2, h3, w1, a1, r1, AL, T3, T22, T28, T30, T33, T42, T44, T163, EL, e_finWf, e_finWt, e_finMN, e_finMX, retM, meltV, tupV, D.asBox, D.row1, D.freeR, D.freeO, List.replicate_succ, stepD, accs, accP, accW, simpleOp, isAl, isExt, flipD, D.fresh1, D.row, D.plain, D.plain.plainL, St.close, St.close1, St.borrow, retV, resV, resL, outCL, outC, outL, outD, wantedV, opV, An.mid, thawV, St.settle, D.plainU, prune, envOf, get, put, eval, evalT, nz, argsV, capsV, ofV, binV, binV.aggV, unV, intV, eqOp, isConst, natV, optV, loadV, loadC, storeV, setC, St.at_, partV, partTy, indexAddrV, fieldAddrV, sliceV, sliceV.rowSl, sliceV.strSl, bounds, cutP, builtinV, lenV, maxL, maxV, appendV, St.elems, rowOf, rowS, isStr, esz, tdOf, convV, buildV, fillV, partsV, okParts, fillL, D.whole, D.demoteC, D.demote, demoteL, D.global, D.flat, D.leaf, D.cells, TI.agg, TD.rowish, callOpV, moveL, CC, keepB, St.borrowL, St.borrow, D.isLsl, adoptR, adoptC, adoptCL, adoptL, adopt, List.toArray, Array.toList, Nat.reduceEqDiff, Nat.reduceAdd, Nat.reduceSub, Nat.reduceMul, Nat.reduceLeDiff, Nat.reduceLT, reduceIte, reduceCtorEq, forall_const, imp_self, Int.reduceNeg, Int.reduceLT, Int.reduceLE, Int.reduceGT, Int.reduceGE, Int.reduceAdd, Int.reduceSub, Int.reduceMul, Int.reduceToNat, Int.reduceEq, ne_eq, eq_self]
      trace_state

end Go.Proofs.YtnhelkclkdfndaaDoor.V
