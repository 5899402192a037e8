/-
Layer 5: what the document's functions compute.
-/
import Derived.Test.YtnhelkclkdfndaaDoorWC
namespace Go.Proofs.YtnhelkclkdfndaaDoor.V
open Go Go.RowKit
set_option linter.unusedSimpArgs false
set_option linter.unusedVariables false

variable {C : Callees}

/-! ### Open -/
def st95 (B : Hp) (l : List UInt8) (i : Nat) : St := ⟨[(0, byV l .none), (5, .int .i64 (nO l : Nat)), (6, .int .i64 i)], [], [], B⟩
theorem blank_get {l : List UInt8} : blankS l = true ↔ ∀ (i : Nat) (c : UInt8), l[i]? = some c → c = 0 := by
  unfold blankS
  rw [List.all_eq_true]
  constructor
  · intro h i c hi; simpa using h c (List.mem_of_getElem? hi)
  · intro h c hc
    obtain ⟨i, hi⟩ := List.getElem?_of_mem hc
    simpa using h i c hi

set_option maxRecDepth 10000 in
theorem loop95 (C : Callees) (B : Hp) (l : List UInt8) (hl : l.length = 512) (hn : nO l ≤ 504) (st : St) (hst : an95.at_ (some 9) st = st95 B l (4 + nO l)) :
    ∃ x st', loopC T an95 C lp95_0 st = some (x, st') ∧ ∃ ρ, st' = ⟨ρ, [], [], B⟩ ∧ ((x = .exit 0 ∧ blankS ((l.take 508).drop (4 + nO l)) = true ∧ get ρ 0 = byV l .none ∧ get ρ 5 = .int .i64 (nO l : Nat)) ∨ (x = .ret ∧ blankS ((l.take 508).drop (4 + nO l)) = false ∧ get ρ 2 = .int .u8 0 ∧ get ρ 3 = .vec 1 [] .exact ∧ get ρ 4 = .int .i64 3)) := by
  refine loop_rule (st95 B l) (fun i => 4 + nO l ≤ i ∧ i ≤ 508 ∧ ∀ j, 4 + nO l ≤ j → j < i → bO l j = 0) (fun i => 508 - i) _ ?_ (4 + nO l) st hst ⟨Nat.le_refl _, by omega, fun j h1 h2 => by omega⟩
  rintro i ⟨h0, hi, hI⟩
  rcases Nat.lt_or_ge i 508 with h | h
  · have g0 : (i : Int) < 508 := by omega
    have n1 := nat0 i
    have g1 := bO_get (l := l) (i := i) (by omega)
    have w1 : IntKind.i64.wrap ((i : Int) + 1) = ((i + 1 : Nat) : Int) := by rw [wrapI (by omega) (by omega)]; rfl
    have z1 := u8_zero (bO l i)
    cases e : bO l i == 0 <;> rw [e] at z1
    · right
      have hb : blankS ((l.take 508).drop (4 + nO l)) = false := by
        rw [Bool.eq_false_iff, ne_eq, blank_get]
        intro hb
        have := hb (i - (4 + nO l)) (bO l i) (by
          rw [List.getElem?_drop, List.getElem?_take_of_lt (by omega), show 4 + nO l + (i - (4 + nO l)) = i by omega]
          unfold bO
          rw [List.getD_eq_getElem?_getD, List.getElem?_eq_getElem (by omega)]; rfl)
        rw [this] at e; cases e
      simp only [st95, lp95_0, subC, atC, Tryd.f95, an95, g0, n1, g1, w1, z1, Int.toNat_natCast, T3, T4, T5, T68, EL, e_finWf, e_finWt, e_finMN, e_finMX, retM, meltV, tupV, D.asBox, D.row1, D.freeR, D.freeO, List.replicate_succ, stepD, accs, accP, accW, simpleOp, isAl, isExt, flipD, D.fresh1, D.row, D.plain, D.plain.plainL, St.close, St.close1, St.borrow, retV, resV, resL, outCL, outC, outL, outD, wantedV, opV, An.mid, thawV, St.settle, D.plainU, prune, envOf, get, put, eval, evalT, nz, argsV, capsV, ofV, binV, binV.aggV, unV, intV, eqOp, isConst, natV, optV, loadV, loadC, storeV, setC, St.at_, partV, partTy, indexAddrV, fieldAddrV, sliceV, sliceV.rowSl, sliceV.strSl, bounds, cutP, builtinV, lenV, maxL, maxV, appendV, St.elems, roomy, rowOf, rowS, isStr, esz, tdOf, convV, buildV, fillV, partsV, okParts, fillL, D.whole, D.demoteC, D.demote, demoteL, D.global, D.flat, D.leaf, D.cells, TI.agg, TD.rowish, callOpV, moveL, CC, keepB, St.borrowL, St.borrow, D.isLsl, adoptR, adoptC, adoptCL, adoptL, adopt, List.toArray, Array.toList, Nat.reduceEqDiff, Nat.reduceAdd, Nat.reduceSub, Nat.reduceMul, Nat.reduceLeDiff, Nat.reduceLT, reduceIte, reduceCtorEq, forall_const, imp_self, Int.reduceNeg, Int.reduceLT, Int.reduceLE, Int.reduceGT, Int.reduceGE, Int.reduceAdd, Int.reduceSub, Int.reduceMul, Int.reduceToNat, Int.reduceEq, ne_eq, eq_self]
      exact ⟨_, _, rfl, by simp, _, rfl, .inr ⟨rfl, hb, rfl, rfl, rfl⟩⟩
    · left
      refine ⟨i + 1, ?_, ⟨by omega, by omega, fun j h1 h2 => ?_⟩, by omega⟩
      · simp only [st95, lp95_0, subC, atC, Tryd.f95, an95, g0, n1, g1, w1, z1, Int.toNat_natCast, T3, T4, T5, T68, EL, e_finWf, e_finWt, e_finMN, e_finMX, retM, meltV, tupV, D.asBox, D.row1, D.freeR, D.freeO, List.replicate_succ, stepD, accs, accP, accW, simpleOp, isAl, isExt, flipD, D.fresh1, D.row, D.plain, D.plain.plainL, St.close, St.close1, St.borrow, retV, resV, resL, outCL, outC, outL, outD, wantedV, opV, An.mid, thawV, St.settle, D.plainU, prune, envOf, get, put, eval, evalT, nz, argsV, capsV, ofV, binV, binV.aggV, unV, intV, eqOp, isConst, natV, optV, loadV, loadC, storeV, setC, St.at_, partV, partTy, indexAddrV, fieldAddrV, sliceV, sliceV.rowSl, sliceV.strSl, bounds, cutP, builtinV, lenV, maxL, maxV, appendV, St.elems, roomy, rowOf, rowS, isStr, esz, tdOf, convV, buildV, fillV, partsV, okParts, fillL, D.whole, D.demoteC, D.demote, demoteL, D.global, D.flat, D.leaf, D.cells, TI.agg, TD.rowish, callOpV, moveL, CC, keepB, St.borrowL, St.borrow, D.isLsl, adoptR, adoptC, adoptCL, adoptL, adopt, List.toArray, Array.toList, Nat.reduceEqDiff, Nat.reduceAdd, Nat.reduceSub, Nat.reduceMul, Nat.reduceLeDiff, Nat.reduceLT, reduceIte, reduceCtorEq, forall_const, imp_self, Int.reduceNeg, Int.reduceLT, Int.reduceLE, Int.reduceGT, Int.reduceGE, Int.reduceAdd, Int.reduceSub, Int.reduceMul, Int.reduceToNat, Int.reduceEq, ne_eq, eq_self]
        exact ⟨_, rfl, rfl⟩
      · rcases Nat.lt_or_ge j i with h3 | h3
        · exact hI j h1 h3
        · obtain rfl : j = i := by omega
          simpa using e
  · right
    obtain rfl : i = 508 := by omega
    have g0 : ¬ ((508 : Nat) : Int) < 508 := by omega
    have hb : blankS ((l.take 508).drop (4 + nO l)) = true := by
      rw [blank_get]
      intro j c hj
      have hlt := lt_of_get hj
      simp only [List.length_drop, List.length_take] at hlt
      rw [List.getElem?_drop, List.getElem?_take_of_lt (by omega)] at hj
      have := hI (4 + nO l + j) (by omega) (by omega)
      unfold bO at this
      rw [List.getD_eq_getElem?_getD, hj] at this
      exact this
    simp only [st95, lp95_0, subC, atC, Tryd.f95, an95, g0, T3, T4, T5, T68, EL, e_finWf, e_finWt, e_finMN, e_finMX, retM, meltV, tupV, D.asBox, D.row1, D.freeR, D.freeO, List.replicate_succ, stepD, accs, accP, accW, simpleOp, isAl, isExt, flipD, D.fresh1, D.row, D.plain, D.plain.plainL, St.close, St.close1, St.borrow, retV, resV, resL, outCL, outC, outL, outD, wantedV, opV, An.mid, thawV, St.settle, D.plainU, prune, envOf, get, put, eval, evalT, nz, argsV, capsV, ofV, binV, binV.aggV, unV, intV, eqOp, isConst, natV, optV, loadV, loadC, storeV, setC, St.at_, partV, partTy, indexAddrV, fieldAddrV, sliceV, sliceV.rowSl, sliceV.strSl, bounds, cutP, builtinV, lenV, maxL, maxV, appendV, St.elems, roomy, rowOf, rowS, isStr, esz, tdOf, convV, buildV, fillV, partsV, okParts, fillL, D.whole, D.demoteC, D.demote, demoteL, D.global, D.flat, D.leaf, D.cells, TI.agg, TD.rowish, callOpV, moveL, CC, keepB, St.borrowL, St.borrow, D.isLsl, adoptR, adoptC, adoptCL, adoptL, adopt, List.toArray, Array.toList, Nat.reduceEqDiff, Nat.reduceAdd, Nat.reduceSub, Nat.reduceMul, Nat.reduceLeDiff, Nat.reduceLT, reduceIte, reduceCtorEq, forall_const, imp_self, Int.reduceNeg, Int.reduceLT, Int.reduceLE, Int.reduceGT, Int.reduceGE, Int.reduceAdd, Int.reduceSub, Int.reduceMul, Int.reduceToNat, Int.reduceEq, ne_eq, eq_self]
    exact ⟨_, _, rfl, by simp, _, rfl, .inl ⟨rfl, hb, rfl, rfl⟩⟩

set_option maxRecDepth 10000 in
theorem run95_len (C : Callees) (l : List UInt8) (h : l.length ≠ 512) (B : Hp) : runV T C fi95 [byV l .none] B = some (.tuple [.int .u8 0, .vec 1 [] .fresh, .int .i64 3], B) := by
  rw [e_run _ _ _ rfl]
  have h1 : ¬ (l.length : Int) = 512 := by omega
  simp only [fi95, Tryd.f95, an95, h1, T3, T4, T5, T68, EL, e_finWf, e_finWt, e_finMN, e_finMX, retM, meltV, tupV, D.asBox, D.row1, D.freeR, D.freeO, List.replicate_succ, stepD, accs, accP, accW, simpleOp, isAl, isExt, flipD, D.fresh1, D.row, D.plain, D.plain.plainL, St.close, St.close1, St.borrow, retV, resV, resL, outCL, outC, outL, outD, wantedV, opV, An.mid, thawV, St.settle, D.plainU, prune, envOf, get, put, eval, evalT, nz, argsV, capsV, ofV, binV, binV.aggV, unV, intV, eqOp, isConst, natV, optV, loadV, loadC, storeV, setC, St.at_, partV, partTy, indexAddrV, fieldAddrV, sliceV, sliceV.rowSl, sliceV.strSl, bounds, cutP, builtinV, lenV, maxL, maxV, appendV, St.elems, roomy, rowOf, rowS, isStr, esz, tdOf, convV, buildV, fillV, partsV, okParts, fillL, D.whole, D.demoteC, D.demote, demoteL, D.global, D.flat, D.leaf, D.cells, TI.agg, TD.rowish, callOpV, moveL, CC, keepB, St.borrowL, St.borrow, D.isLsl, adoptR, adoptC, adoptCL, adoptL, adopt, List.toArray, Array.toList, Nat.reduceEqDiff, Nat.reduceAdd, Nat.reduceSub, Nat.reduceMul, Nat.reduceLeDiff, Nat.reduceLT, reduceIte, reduceCtorEq, forall_const, imp_self, Int.reduceNeg, Int.reduceLT, Int.reduceLE, Int.reduceGT, Int.reduceGE, Int.reduceAdd, Int.reduceSub, Int.reduceMul, Int.reduceToNat, Int.reduceEq, ne_eq, eq_self]
set_option maxRecDepth 10000 in
theorem run95_sum (hC : Lib05 C) (l : List UInt8) (h : l.length = 512) (hs : isL l = false) (B : Hp) : runV T C fi95 [byV l .none] B = some (.tuple [.int .u8 0, .vec 1 [] .fresh, .int .i64 4], B) := by
  rw [e_run _ _ _ rfl]
  have h1 : (l.length : Int) = 512 := by omega
  have c1 := c143 hC.toLibCrc l (by omega)
  rw [hs] at c1
  simp only [fi95, Tryd.f95, an95, h1, c1, T3, T4, T5, T68, EL, e_finWf, e_finWt, e_finMN, e_finMX, retM, meltV, tupV, D.asBox, D.row1, D.freeR, D.freeO, List.replicate_succ, stepD, accs, accP, accW, simpleOp, isAl, isExt, flipD, D.fresh1, D.row, D.plain, D.plain.plainL, St.close, St.close1, St.borrow, retV, resV, resL, outCL, outC, outL, outD, wantedV, opV, An.mid, thawV, St.settle, D.plainU, prune, envOf, get, put, eval, evalT, nz, argsV, capsV, ofV, binV, binV.aggV, unV, intV, eqOp, isConst, natV, optV, loadV, loadC, storeV, setC, St.at_, partV, partTy, indexAddrV, fieldAddrV, sliceV, sliceV.rowSl, sliceV.strSl, bounds, cutP, builtinV, lenV, maxL, maxV, appendV, St.elems, roomy, rowOf, rowS, isStr, esz, tdOf, convV, buildV, fillV, partsV, okParts, fillL, D.whole, D.demoteC, D.demote, demoteL, D.global, D.flat, D.leaf, D.cells, TI.agg, TD.rowish, callOpV, moveL, CC, keepB, St.borrowL, St.borrow, D.isLsl, adoptR, adoptC, adoptCL, adoptL, adopt, List.toArray, Array.toList, Nat.reduceEqDiff, Nat.reduceAdd, Nat.reduceSub, Nat.reduceMul, Nat.reduceLeDiff, Nat.reduceLT, reduceIte, reduceCtorEq, forall_const, imp_self, Int.reduceNeg, Int.reduceLT, Int.reduceLE, Int.reduceGT, Int.reduceGE, Int.reduceAdd, Int.reduceSub, Int.reduceMul, Int.reduceToNat, Int.reduceEq, ne_eq, eq_self]

theorem kind_parts (c : UInt8) : kindS c.toNat = (!decide ((c.toNat : Int) < 1) && !decide ((c.toNat : Int) > 5)) := by
  unfold kindS
  rw [Bool.eq_iff_iff]
  simp only [Bool.and_eq_true, decide_eq_true_eq, Bool.not_eq_true', decide_eq_false_iff_not]
  omega

set_option maxRecDepth 10000 in
set_option maxHeartbeats 1000000 in
theorem run95 (hC : Lib05 C) (l : List UInt8) (h : l.length = 512) (hs : isL l = true) (B : Hp) : runV T C fi95 [byV l .none] B = some (if okO l = true then .tuple [.int .u8 (bO l 0).toNat, byV (ldO l) .none, .int .i64 0] else .tuple [.int .u8 0, .vec 1 [] .fresh, .int .i64 3], B) := by
  rw [e_run _ _ _ rfl]
  have h1 : (l.length : Int) = 512 := by omega
  have c1 := c143 hC.toLibCrc l (by omega)
  rw [hs] at c1
  have g0 := bO_get (l := l) (i := 0) (by omega)
  have g1 := bO_get (l := l) (i := 1) (by omega)
  have g2 := bO_get (l := l) (i := 2) (by omega)
  have g3 := bO_get (l := l) (i := 3) (by omega)
  have hb2 := (bO l 2).toNat_lt
  have hb3 := (bO l 3).toNat_lt
  have w2 : IntKind.i64.wrap ((bO l 2).toNat : Int) = (bO l 2).toNat := wrapI (by omega) (by omega)
  have w3 : IntKind.i64.wrap ((bO l 3).toNat : Int) = (bO l 3).toNat := wrapI (by omega) (by omega)
  have s1 : IntKind.i64.wrap (256 * ((bO l 2).toNat : Int)) = (((bO l 2).toNat * 256 : Nat) : Int) := by rw [wrapI (by omega) (by omega)]; omega
  have s2 : IntKind.i64.wrap ((((bO l 2).toNat * 256 : Nat) : Int) + ((bO l 3).toNat : Int)) = ((nO l : Nat) : Int) := by rw [wrapI (by omega) (by omega)]; rfl
  have z1 := u8_zero (bO l 1)
  have hk := kind_parts (bO l 0)
  unfold okO
  by_cases k1 : ((bO l 0).toNat : Int) < 1
  · rw [decide_eq_true k1, Bool.not_true, Bool.false_and] at hk
    rw [hk]
    simp only [fi95, Tryd.f95, an95, h1, c1, g0, g1, g2, g3, w2, w3, s1, s2, k1, T3, T4, T5, T68, EL, e_finWf, e_finWt, e_finMN, e_finMX, retM, meltV, tupV, D.asBox, D.row1, D.freeR, D.freeO, List.replicate_succ, stepD, accs, accP, accW, simpleOp, isAl, isExt, flipD, D.fresh1, D.row, D.plain, D.plain.plainL, St.close, St.close1, St.borrow, retV, resV, resL, outCL, outC, outL, outD, wantedV, opV, An.mid, thawV, St.settle, D.plainU, prune, envOf, get, put, eval, evalT, nz, argsV, capsV, ofV, binV, binV.aggV, unV, intV, eqOp, isConst, natV, optV, loadV, loadC, storeV, setC, St.at_, partV, partTy, indexAddrV, fieldAddrV, sliceV, sliceV.rowSl, sliceV.strSl, bounds, cutP, builtinV, lenV, maxL, maxV, appendV, St.elems, roomy, rowOf, rowS, isStr, esz, tdOf, convV, buildV, fillV, partsV, okParts, fillL, D.whole, D.demoteC, D.demote, demoteL, D.global, D.flat, D.leaf, D.cells, TI.agg, TD.rowish, callOpV, moveL, CC, keepB, St.borrowL, St.borrow, D.isLsl, adoptR, adoptC, adoptCL, adoptL, adopt, List.toArray, Array.toList, Nat.reduceEqDiff, Nat.reduceAdd, Nat.reduceSub, Nat.reduceMul, Nat.reduceLeDiff, Nat.reduceLT, reduceIte, reduceCtorEq, forall_const, imp_self, Int.reduceNeg, Int.reduceLT, Int.reduceLE, Int.reduceGT, Int.reduceGE, Int.reduceAdd, Int.reduceSub, Int.reduceMul, Int.reduceToNat, Int.reduceEq, ne_eq, eq_self]
    all_goals rfl
  · by_cases k2 : ((bO l 0).toNat : Int) > 5
    · rw [decide_eq_true k2, Bool.not_true, Bool.and_false] at hk
      rw [hk]
      simp only [fi95, Tryd.f95, an95, h1, c1, g0, g1, g2, g3, w2, w3, s1, s2, k1, k2, T3, T4, T5, T68, EL, e_finWf, e_finWt, e_finMN, e_finMX, retM, meltV, tupV, D.asBox, D.row1, D.freeR, D.freeO, List.replicate_succ, stepD, accs, accP, accW, simpleOp, isAl, isExt, flipD, D.fresh1, D.row, D.plain, D.plain.plainL, St.close, St.close1, St.borrow, retV, resV, resL, outCL, outC, outL, outD, wantedV, opV, An.mid, thawV, St.settle, D.plainU, prune, envOf, get, put, eval, evalT, nz, argsV, capsV, ofV, binV, binV.aggV, unV, intV, eqOp, isConst, natV, optV, loadV, loadC, storeV, setC, St.at_, partV, partTy, indexAddrV, fieldAddrV, sliceV, sliceV.rowSl, sliceV.strSl, bounds, cutP, builtinV, lenV, maxL, maxV, appendV, St.elems, roomy, rowOf, rowS, isStr, esz, tdOf, convV, buildV, fillV, partsV, okParts, fillL, D.whole, D.demoteC, D.demote, demoteL, D.global, D.flat, D.leaf, D.cells, TI.agg, TD.rowish, callOpV, moveL, CC, keepB, St.borrowL, St.borrow, D.isLsl, adoptR, adoptC, adoptCL, adoptL, adopt, List.toArray, Array.toList, Nat.reduceEqDiff, Nat.reduceAdd, Nat.reduceSub, Nat.reduceMul, Nat.reduceLeDiff, Nat.reduceLT, reduceIte, reduceCtorEq, forall_const, imp_self, Int.reduceNeg, Int.reduceLT, Int.reduceLE, Int.reduceGT, Int.reduceGE, Int.reduceAdd, Int.reduceSub, Int.reduceMul, Int.reduceToNat, Int.reduceEq, ne_eq, eq_self]
      all_goals rfl
    · rw [decide_eq_false k1, decide_eq_false k2] at hk
      rw [hk]
      cases e2 : bO l 1 == 0 <;> rw [e2] at z1
      · simp only [fi95, Tryd.f95, an95, h1, c1, g0, g1, g2, g3, w2, w3, s1, s2, k1, k2, z1, T3, T4, T5, T68, EL, e_finWf, e_finWt, e_finMN, e_finMX, retM, meltV, tupV, D.asBox, D.row1, D.freeR, D.freeO, List.replicate_succ, stepD, accs, accP, accW, simpleOp, isAl, isExt, flipD, D.fresh1, D.row, D.plain, D.plain.plainL, St.close, St.close1, St.borrow, retV, resV, resL, outCL, outC, outL, outD, wantedV, opV, An.mid, thawV, St.settle, D.plainU, prune, envOf, get, put, eval, evalT, nz, argsV, capsV, ofV, binV, binV.aggV, unV, intV, eqOp, isConst, natV, optV, loadV, loadC, storeV, setC, St.at_, partV, partTy, indexAddrV, fieldAddrV, sliceV, sliceV.rowSl, sliceV.strSl, bounds, cutP, builtinV, lenV, maxL, maxV, appendV, St.elems, roomy, rowOf, rowS, isStr, esz, tdOf, convV, buildV, fillV, partsV, okParts, fillL, D.whole, D.demoteC, D.demote, demoteL, D.global, D.flat, D.leaf, D.cells, TI.agg, TD.rowish, callOpV, moveL, CC, keepB, St.borrowL, St.borrow, D.isLsl, adoptR, adoptC, adoptCL, adoptL, adopt, List.toArray, Array.toList, Nat.reduceEqDiff, Nat.reduceAdd, Nat.reduceSub, Nat.reduceMul, Nat.reduceLeDiff, Nat.reduceLT, reduceIte, reduceCtorEq, forall_const, imp_self, Int.reduceNeg, Int.reduceLT, Int.reduceLE, Int.reduceGT, Int.reduceGE, Int.reduceAdd, Int.reduceSub, Int.reduceMul, Int.reduceToNat, Int.reduceEq, ne_eq, eq_self]
        all_goals rfl
      · by_cases e3 : nO l ≤ 504
        · have k3 : ¬ ((nO l : Nat) : Int) > 504 := by omega
          have w4 : IntKind.i64.wrap (4 + ((nO l : Nat) : Int)) = ((4 + nO l : Nat) : Int) := by rw [wrapI (by omega) (by omega)]; omega
          have n4 := nat0 (4 + nO l)
          have l5 : 4 ≤ 4 + nO l := by omega
          have l6 : 4 + nO l ≤ 512 := by omega
          rw [decide_eq_true e3]
          simp only [fi95, Tryd.f95, an95, h1, c1, g0, g1, g2, g3, w2, w3, s1, s2, k1, k2, z1, k3, w4, T3, T4, T5, T68, EL, e_finWf, e_finWt, e_finMN, e_finMX, retM, meltV, tupV, D.asBox, D.row1, D.freeR, D.freeO, List.replicate_succ, stepD, accs, accP, accW, simpleOp, isAl, isExt, flipD, D.fresh1, D.row, D.plain, D.plain.plainL, St.close, St.close1, St.borrow, retV, resV, resL, outCL, outC, outL, outD, wantedV, opV, An.mid, thawV, St.settle, D.plainU, prune, envOf, get, put, eval, evalT, nz, argsV, capsV, ofV, binV, binV.aggV, unV, intV, eqOp, isConst, natV, optV, loadV, loadC, storeV, setC, St.at_, partV, partTy, indexAddrV, fieldAddrV, sliceV, sliceV.rowSl, sliceV.strSl, bounds, cutP, builtinV, lenV, maxL, maxV, appendV, St.elems, roomy, rowOf, rowS, isStr, esz, tdOf, convV, buildV, fillV, partsV, okParts, fillL, D.whole, D.demoteC, D.demote, demoteL, D.global, D.flat, D.leaf, D.cells, TI.agg, TD.rowish, callOpV, moveL, CC, keepB, St.borrowL, St.borrow, D.isLsl, adoptR, adoptC, adoptCL, adoptL, adopt, List.toArray, Array.toList, Nat.reduceEqDiff, Nat.reduceAdd, Nat.reduceSub, Nat.reduceMul, Nat.reduceLeDiff, Nat.reduceLT, reduceIte, reduceCtorEq, forall_const, imp_self, Int.reduceNeg, Int.reduceLT, Int.reduceLE, Int.reduceGT, Int.reduceGE, Int.reduceAdd, Int.reduceSub, Int.reduceMul, Int.reduceToNat, Int.reduceEq, ne_eq, eq_self]
          refine' in_loop (c' := lp95_0) (fin T _ _ _) ?h rfl ?q
          case h =>
            refine loop95 C B l h e3 _ ?_
            simp only [an95, ren_map, toks_map, boxes_map, st95, An.at_, tidyV, tidyW, tidyB, tidyT, sift, envBoxes, envToks, conToks, D.toks, D.tok1, toksL, D.boxes, D.box1, boxesL, memN, posN, renE, D.ren, D.ren1, renL, renB, St.content, St.boxOk, St.tokOk, trues, T3, T4, T5, T68, EL, e_finWf, e_finWt, e_finMN, e_finMX, retM, meltV, tupV, D.asBox, D.row1, D.freeR, D.freeO, List.replicate_succ, stepD, accs, accP, accW, simpleOp, isAl, isExt, flipD, D.fresh1, D.row, D.plain, D.plain.plainL, St.close, St.close1, St.borrow, retV, resV, resL, outCL, outC, outL, outD, wantedV, opV, An.mid, thawV, St.settle, D.plainU, prune, envOf, get, put, eval, evalT, nz, argsV, capsV, ofV, binV, binV.aggV, unV, intV, eqOp, isConst, natV, optV, loadV, loadC, storeV, setC, St.at_, partV, partTy, indexAddrV, fieldAddrV, sliceV, sliceV.rowSl, sliceV.strSl, bounds, cutP, builtinV, lenV, maxL, maxV, appendV, St.elems, roomy, rowOf, rowS, isStr, esz, tdOf, convV, buildV, fillV, partsV, okParts, fillL, D.whole, D.demoteC, D.demote, demoteL, D.global, D.flat, D.leaf, D.cells, TI.agg, TD.rowish, callOpV, moveL, CC, keepB, St.borrowL, St.borrow, D.isLsl, adoptR, adoptC, adoptCL, adoptL, adopt, List.toArray, Array.toList, Nat.reduceEqDiff, Nat.reduceAdd, Nat.reduceSub, Nat.reduceMul, Nat.reduceLeDiff, Nat.reduceLT, reduceIte, reduceCtorEq, forall_const, imp_self, Int.reduceNeg, Int.reduceLT, Int.reduceLE, Int.reduceGT, Int.reduceGE, Int.reduceAdd, Int.reduceSub, Int.reduceMul, Int.reduceToNat, Int.reduceEq, ne_eq, eq_self]
          rintro x st' ⟨ρ, rfl, ⟨rfl, hb, r0, r5⟩ | ⟨rfl, hb, r2, r3, r4⟩⟩
          · rw [hb]
            simp only [r0, r5, h, g0, w4, n4, l5, l6, Int.toNat_natCast, T3, T4, T5, T68, EL, e_finWf, e_finWt, e_finMN, e_finMX, retM, meltV, tupV, D.asBox, D.row1, D.freeR, D.freeO, List.replicate_succ, stepD, accs, accP, accW, simpleOp, isAl, isExt, flipD, D.fresh1, D.row, D.plain, D.plain.plainL, St.close, St.close1, St.borrow, retV, resV, resL, outCL, outC, outL, outD, wantedV, opV, An.mid, thawV, St.settle, D.plainU, prune, envOf, get, put, eval, evalT, nz, argsV, capsV, ofV, binV, binV.aggV, unV, intV, eqOp, isConst, natV, optV, loadV, loadC, storeV, setC, St.at_, partV, partTy, indexAddrV, fieldAddrV, sliceV, sliceV.rowSl, sliceV.strSl, bounds, cutP, builtinV, lenV, maxL, maxV, appendV, St.elems, roomy, rowOf, rowS, isStr, esz, tdOf, convV, buildV, fillV, partsV, okParts, fillL, D.whole, D.demoteC, D.demote, demoteL, D.global, D.flat, D.leaf, D.cells, TI.agg, TD.rowish, callOpV, moveL, CC, keepB, St.borrowL, St.borrow, D.isLsl, adoptR, adoptC, adoptCL, adoptL, adopt, List.toArray, Array.toList, Nat.reduceEqDiff, Nat.reduceAdd, Nat.reduceSub, Nat.reduceMul, Nat.reduceLeDiff, Nat.reduceLT, reduceIte, reduceCtorEq, forall_const, imp_self, Int.reduceNeg, Int.reduceLT, Int.reduceLE, Int.reduceGT, Int.reduceGE, Int.reduceAdd, Int.reduceSub, Int.reduceMul, Int.reduceToNat, Int.reduceEq, ne_eq, eq_self]
            all_goals rfl
          · rw [hb]
            simp only [r2, r3, r4, T3, T4, T5, T68, EL, e_finWf, e_finWt, e_finMN, e_finMX, retM, meltV, tupV, D.asBox, D.row1, D.freeR, D.freeO, List.replicate_succ, stepD, accs, accP, accW, simpleOp, isAl, isExt, flipD, D.fresh1, D.row, D.plain, D.plain.plainL, St.close, St.close1, St.borrow, retV, resV, resL, outCL, outC, outL, outD, wantedV, opV, An.mid, thawV, St.settle, D.plainU, prune, envOf, get, put, eval, evalT, nz, argsV, capsV, ofV, binV, binV.aggV, unV, intV, eqOp, isConst, natV, optV, loadV, loadC, storeV, setC, St.at_, partV, partTy, indexAddrV, fieldAddrV, sliceV, sliceV.rowSl, sliceV.strSl, bounds, cutP, builtinV, lenV, maxL, maxV, appendV, St.elems, roomy, rowOf, rowS, isStr, esz, tdOf, convV, buildV, fillV, partsV, okParts, fillL, D.whole, D.demoteC, D.demote, demoteL, D.global, D.flat, D.leaf, D.cells, TI.agg, TD.rowish, callOpV, moveL, CC, keepB, St.borrowL, St.borrow, D.isLsl, adoptR, adoptC, adoptCL, adoptL, adopt, List.toArray, Array.toList, Nat.reduceEqDiff, Nat.reduceAdd, Nat.reduceSub, Nat.reduceMul, Nat.reduceLeDiff, Nat.reduceLT, reduceIte, reduceCtorEq, forall_const, imp_self, Int.reduceNeg, Int.reduceLT, Int.reduceLE, Int.reduceGT, Int.reduceGE, Int.reduceAdd, Int.reduceSub, Int.reduceMul, Int.reduceToNat, Int.reduceEq, ne_eq, eq_self]
            all_goals rfl
        · have k3 : ((nO l : Nat) : Int) > 504 := by omega
          rw [decide_eq_false e3]
          simp only [fi95, Tryd.f95, an95, h1, c1, g0, g1, g2, g3, w2, w3, s1, s2, k1, k2, z1, k3, T3, T4, T5, T68, EL, e_finWf, e_finWt, e_finMN, e_finMX, retM, meltV, tupV, D.asBox, D.row1, D.freeR, D.freeO, List.replicate_succ, stepD, accs, accP, accW, simpleOp, isAl, isExt, flipD, D.fresh1, D.row, D.plain, D.plain.plainL, St.close, St.close1, St.borrow, retV, resV, resL, outCL, outC, outL, outD, wantedV, opV, An.mid, thawV, St.settle, D.plainU, prune, envOf, get, put, eval, evalT, nz, argsV, capsV, ofV, binV, binV.aggV, unV, intV, eqOp, isConst, natV, optV, loadV, loadC, storeV, setC, St.at_, partV, partTy, indexAddrV, fieldAddrV, sliceV, sliceV.rowSl, sliceV.strSl, bounds, cutP, builtinV, lenV, maxL, maxV, appendV, St.elems, roomy, rowOf, rowS, isStr, esz, tdOf, convV, buildV, fillV, partsV, okParts, fillL, D.whole, D.demoteC, D.demote, demoteL, D.global, D.flat, D.leaf, D.cells, TI.agg, TD.rowish, callOpV, moveL, CC, keepB, St.borrowL, St.borrow, D.isLsl, adoptR, adoptC, adoptCL, adoptL, adopt, List.toArray, Array.toList, Nat.reduceEqDiff, Nat.reduceAdd, Nat.reduceSub, Nat.reduceMul, Nat.reduceLeDiff, Nat.reduceLT, reduceIte, reduceCtorEq, forall_const, imp_self, Int.reduceNeg, Int.reduceLT, Int.reduceLE, Int.reduceGT, Int.reduceGE, Int.reduceAdd, Int.reduceSub, Int.reduceMul, Int.reduceToNat, Int.reduceEq, ne_eq, eq_self]
          all_goals rfl

theorem ro_len (hC : Lib05 C) (l : List UInt8) (h : l.length ≠ 512) (B : Hp) : C 95 [.vec 1 (l.map byteD) .none] B = some (.tuple [.int .u8 0, .vec 1 [] .fresh, .int .i64 3], B) := hC.f95 _ _ _ (run95_len C l h B)
theorem ro_sum (hC : Lib05 C) (l : List UInt8) (h : l.length = 512) (hs : isL l = false) (B : Hp) : C 95 [.vec 1 (l.map byteD) .none] B = some (.tuple [.int .u8 0, .vec 1 [] .fresh, .int .i64 4], B) := hC.f95 _ _ _ (run95_sum hC l h hs B)
theorem ro_bad (hC : Lib05 C) (l : List UInt8) (h : l.length = 512) (hs : isL l = true) (ho : okO l = false) (B : Hp) : C 95 [.vec 1 (l.map byteD) .none] B = some (.tuple [.int .u8 0, .vec 1 [] .fresh, .int .i64 3], B) := by
  have := hC.f95 _ _ _ (run95 hC l h hs B)
  rw [ho] at this; exact this
theorem ro_ok (hC : Lib05 C) (l : List UInt8) (h : l.length = 512) (hs : isL l = true) (ho : okO l = true) (B : Hp) : C 95 [.vec 1 (l.map byteD) .none] B = some (.tuple [.int .u8 (bO l 0).toNat, .vec 1 ((ldO l).map byteD) .none, .int .i64 0], B) := by
  have := hC.f95 _ _ _ (run95 hC l h hs B)
  rw [ho] at this; exact this

end Go.Proofs.YtnhelkclkdfndaaDoor.V
