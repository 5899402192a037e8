/-
Layer 18: PinsTells.
-/
import Derived.Test.YtnhelkclkdfndaaDoorRN
namespace Go.Proofs.YtnhelkclkdfndaaDoor.V
open Go Go.RowKit
set_option linter.unusedSimpArgs false
set_option linter.unusedVariables false

/-! warren/warrenlaw18.PinsTells -/
def an3 : An := ⟨fun | 15 => some [3, 7, 22, 23, 24, 25] | _ => .none, fun _ => 0, fun _ => false, fun _ => .none⟩
noncomputable def fi3 : FI := ⟨3, 202, Tryd.f3.body.getD .skip, Tryd.f3.results.toList, an3, false, false, false⟩
theorem ok3 : FnOk Tryd.prog 3 fi3 := ⟨⟨Tryd.f3, Tryd.func3, by kernel_rfl, rfl, rfl, rfl⟩, by decide, by kernel_rfl, fun h => by cases h⟩
noncomputable def lp3_0 : Code := subC [1, 1, 1, 1, 1, 1, 1, 1, 1, 1, 1, 1, 0, 1, 0, 0] (Tryd.f3.body.getD .skip)   -- head 15 keep [3, 7, 22, 23, 24, 25]

variable {C : Callees}

theorem num_any (hC : Known18 C) (n : Nat) (B : Hp) : C 23 [errD n] B = some (.int .i64 n, B) := hC.num n B

/-- How far the law's own loop has come: k, the least one, whether there is any. -/
def lstI (l : List Pn) (x : Nat × Nat × Bool) : Prop := x.1 ≤ l.length ∧ ((x.1 = 0 ∧ x.2.1 = 0 ∧ x.2.2 = false) ∨ (0 < x.1 ∧ x.2.2 = true ∧ (∀ a, a < x.1 → x.2.1 ≤ sqP l a) ∧ ∃ j, j < x.1 ∧ x.2.1 = sqP l j))
def st3 (n : Nat) (l : List Pn) (x : Nat × Nat × Bool) : St := ⟨[(3, .lptr 0 0), (7, .lptr 1 0), (22, .lptr 2 0), (23, .int .u64 (x.2.1 : Nat)), (24, .bool x.2.2), (25, .int .i64 (x.1 : Nat))],
  [some [.int .u64 (n : Nat), .vec 18 (l.map pnD) .none], some [.int .u64 (n : Nat), .vec 18 (l.map pnD) (.own 0)], some (nums .u64 16 (heldK l x.1))], [true], []⟩

set_option maxRecDepth 20000 in
set_option maxHeartbeats 4000000 in
theorem loop3 (hC : Known18 C) (n : Nat) (l : List Pn) (hm : mayP n l = true) (hw : WdL l) (st : St) (hst : an3.at_ (some 15) st = st3 n l (0, 0, false)) :
    ∃ x st', loopC T an3 C lp3_0 st = some (x, st') ∧ x = .exit 0 ∧ ∃ m b ρ, lstI l (l.length, m, b) ∧ st' = ⟨ρ, (st3 n l (l.length, m, b)).L, [true], []⟩ ∧ get ρ 3 = .lptr 0 0 ∧ get ρ 7 = .lptr 1 0 ∧ get ρ 22 = .lptr 2 0 ∧ get ρ 23 = .int .u64 (m : Nat) ∧ get ρ 24 = .bool b := by
  have hL := hC.toLib18F
  obtain ⟨_, h8, _, _⟩ := may_sort hm
  have c1 := c24 hL.toLib18C n l (by omega) []
  rw [hm] at c1
  refine loop_rule (st3 n l) (lstI l) (fun x => l.length - x.1) _ ?_ (0, 0, false) st hst ⟨Nat.zero_le _, .inl ⟨rfl, rfl, rfl⟩⟩
  rintro ⟨k, m, b⟩ ⟨hk, hI⟩
  simp only at hk hI
  simp only [st3]
  rcases Nat.lt_or_ge k l.length with h | h
  · left
    have g0 : (k : Int) < l.length := by omega
    have g1 := pnat k
    have w1 : IntKind.i64.wrap ((k : Int) + 1) = ((k + 1 : Nat) : Int) := by rw [wrapI (by omega) (by omega)]; rfl
    have e1 := pn_get h
    have c2 := c25 hL.toLib17 (held_w hw k hk) (hw _ (pn_mem h)) []
    have e2 : eithS (heldK l k) (l.getD k default).pg = heldK l (k + 1) := rfl
    rw [e2] at c2
    rcases hI with ⟨rfl, rfl, rfl⟩ | ⟨h0, rfl, hmin, j, hj, hmj⟩
    · refine ⟨(1, sqP l 0, true), ?_, ⟨by simp only; omega, .inr ⟨Nat.one_pos, rfl, fun a ha => ?_, 0, Nat.one_pos, rfl⟩⟩, by simp only; omega⟩
      · simp only [st3, lp3_0, subC, atC, Tryd.f3, an3, g0, g1, w1, e1, c1, c2, dyn_eq, drop16, List.append_nil, Int.toNat_natCast, AL, T3, T4, T22, T23, T25, T26, T28, T30, T33, T42, T44, T48, EL, e_finWf, e_finWt, e_finMN, e_finMX, retM, meltV, tupV, D.asBox, D.row1, D.freeR, D.freeO, List.replicate_succ, stepD, accs, accP, accW, simpleOp, isAl, isExt, flipD, D.fresh1, D.row, D.plain, D.plain.plainL, St.close, St.close1, St.borrow, retV, resV, resL, outCL, outC, outL, outD, wantedV, opV, An.mid, thawV, St.settle, D.plainU, prune, envOf, get, put, eval, evalT, nz, argsV, capsV, ofV, binV, binV.aggV, unV, intV, eqOp, isConst, natV, optV, loadV, loadC, storeV, setC, St.at_, partV, partTy, indexAddrV, fieldAddrV, sliceV, sliceV.rowSl, sliceV.strSl, bounds, cutP, builtinV, lenV, maxL, maxV, appendV, St.elems, roomy, rowOf, rowS, isStr, esz, tdOf, convV, buildV, fillV, partsV, okParts, fillL, D.whole, D.demoteC, D.demote, demoteL, D.global, D.flat, D.leaf, D.cells, TI.agg, TD.rowish, callOpV, moveL, CC, keepB, St.borrowL, St.borrow, D.isLsl, adoptR, adoptC, adoptCL, adoptL, adopt, List.toArray, Array.toList, Nat.reduceEqDiff, Nat.reduceAdd, Nat.reduceSub, Nat.reduceMul, Nat.reduceLeDiff, Nat.reduceLT, reduceIte, reduceCtorEq, forall_const, imp_self, Int.reduceNeg, Int.reduceLT, Int.reduceLE, Int.reduceGT, Int.reduceGE, Int.reduceAdd, Int.reduceSub, Int.reduceMul, Int.reduceToNat, Int.reduceEq, ne_eq, eq_self]
        refine ⟨_, rfl, ?_⟩
        show an3.at_ (some 15) _ = _
        simp only [an3, ren_map, toks_map, boxes_map, AL, An.at_, tidyV, tidyW, tidyB, tidyT, sift, envBoxes, envToks, conToks, D.toks, D.tok1, toksL, D.boxes, D.box1, boxesL, memN, posN, renE, D.ren, D.ren1, renL, renB, St.content, St.boxOk, St.tokOk, trues, T3, T4, T22, T23, T25, T26, T28, T30, T33, T42, T44, T48, EL, e_finWf, e_finWt, e_finMN, e_finMX, retM, meltV, tupV, D.asBox, D.row1, D.freeR, D.freeO, List.replicate_succ, stepD, accs, accP, accW, simpleOp, isAl, isExt, flipD, D.fresh1, D.row, D.plain, D.plain.plainL, St.close, St.close1, St.borrow, retV, resV, resL, outCL, outC, outL, outD, wantedV, opV, An.mid, thawV, St.settle, D.plainU, prune, envOf, get, put, eval, evalT, nz, argsV, capsV, ofV, binV, binV.aggV, unV, intV, eqOp, isConst, natV, optV, loadV, loadC, storeV, setC, St.at_, partV, partTy, indexAddrV, fieldAddrV, sliceV, sliceV.rowSl, sliceV.strSl, bounds, cutP, builtinV, lenV, maxL, maxV, appendV, St.elems, roomy, rowOf, rowS, isStr, esz, tdOf, convV, buildV, fillV, partsV, okParts, fillL, D.whole, D.demoteC, D.demote, demoteL, D.global, D.flat, D.leaf, D.cells, TI.agg, TD.rowish, callOpV, moveL, CC, keepB, St.borrowL, St.borrow, D.isLsl, adoptR, adoptC, adoptCL, adoptL, adopt, List.toArray, Array.toList, Nat.reduceEqDiff, Nat.reduceAdd, Nat.reduceSub, Nat.reduceMul, Nat.reduceLeDiff, Nat.reduceLT, reduceIte, reduceCtorEq, forall_const, imp_self, Int.reduceNeg, Int.reduceLT, Int.reduceLE, Int.reduceGT, Int.reduceGE, Int.reduceAdd, Int.reduceSub, Int.reduceMul, Int.reduceToNat, Int.reduceEq, ne_eq, eq_self]
        rfl
      · simp only at ha
        obtain rfl : a = 0 := by omega
        exact Nat.le_refl _
    · by_cases h1 : ((l.getD k default).sq : Int) < m
      · refine ⟨(k + 1, sqP l k, true), ?_, ⟨by simp only; omega, .inr ⟨Nat.succ_pos _, rfl, fun a ha => ?_, k, Nat.lt_succ_self _, rfl⟩⟩, by simp only; omega⟩
        · simp only [st3, lp3_0, subC, atC, Tryd.f3, an3, g0, g1, w1, e1, c1, c2, h1, dyn_eq, drop16, List.append_nil, Int.toNat_natCast, AL, T3, T4, T22, T23, T25, T26, T28, T30, T33, T42, T44, T48, EL, e_finWf, e_finWt, e_finMN, e_finMX, retM, meltV, tupV, D.asBox, D.row1, D.freeR, D.freeO, List.replicate_succ, stepD, accs, accP, accW, simpleOp, isAl, isExt, flipD, D.fresh1, D.row, D.plain, D.plain.plainL, St.close, St.close1, St.borrow, retV, resV, resL, outCL, outC, outL, outD, wantedV, opV, An.mid, thawV, St.settle, D.plainU, prune, envOf, get, put, eval, evalT, nz, argsV, capsV, ofV, binV, binV.aggV, unV, intV, eqOp, isConst, natV, optV, loadV, loadC, storeV, setC, St.at_, partV, partTy, indexAddrV, fieldAddrV, sliceV, sliceV.rowSl, sliceV.strSl, bounds, cutP, builtinV, lenV, maxL, maxV, appendV, St.elems, roomy, rowOf, rowS, isStr, esz, tdOf, convV, buildV, fillV, partsV, okParts, fillL, D.whole, D.demoteC, D.demote, demoteL, D.global, D.flat, D.leaf, D.cells, TI.agg, TD.rowish, callOpV, moveL, CC, keepB, St.borrowL, St.borrow, D.isLsl, adoptR, adoptC, adoptCL, adoptL, adopt, List.toArray, Array.toList, Nat.reduceEqDiff, Nat.reduceAdd, Nat.reduceSub, Nat.reduceMul, Nat.reduceLeDiff, Nat.reduceLT, reduceIte, reduceCtorEq, forall_const, imp_self, Int.reduceNeg, Int.reduceLT, Int.reduceLE, Int.reduceGT, Int.reduceGE, Int.reduceAdd, Int.reduceSub, Int.reduceMul, Int.reduceToNat, Int.reduceEq, ne_eq, eq_self]
          refine ⟨_, rfl, ?_⟩
          show an3.at_ (some 15) _ = _
          simp only [an3, ren_map, toks_map, boxes_map, AL, An.at_, tidyV, tidyW, tidyB, tidyT, sift, envBoxes, envToks, conToks, D.toks, D.tok1, toksL, D.boxes, D.box1, boxesL, memN, posN, renE, D.ren, D.ren1, renL, renB, St.content, St.boxOk, St.tokOk, trues, T3, T4, T22, T23, T25, T26, T28, T30, T33, T42, T44, T48, EL, e_finWf, e_finWt, e_finMN, e_finMX, retM, meltV, tupV, D.asBox, D.row1, D.freeR, D.freeO, List.replicate_succ, stepD, accs, accP, accW, simpleOp, isAl, isExt, flipD, D.fresh1, D.row, D.plain, D.plain.plainL, St.close, St.close1, St.borrow, retV, resV, resL, outCL, outC, outL, outD, wantedV, opV, An.mid, thawV, St.settle, D.plainU, prune, envOf, get, put, eval, evalT, nz, argsV, capsV, ofV, binV, binV.aggV, unV, intV, eqOp, isConst, natV, optV, loadV, loadC, storeV, setC, St.at_, partV, partTy, indexAddrV, fieldAddrV, sliceV, sliceV.rowSl, sliceV.strSl, bounds, cutP, builtinV, lenV, maxL, maxV, appendV, St.elems, roomy, rowOf, rowS, isStr, esz, tdOf, convV, buildV, fillV, partsV, okParts, fillL, D.whole, D.demoteC, D.demote, demoteL, D.global, D.flat, D.leaf, D.cells, TI.agg, TD.rowish, callOpV, moveL, CC, keepB, St.borrowL, St.borrow, D.isLsl, adoptR, adoptC, adoptCL, adoptL, adopt, List.toArray, Array.toList, Nat.reduceEqDiff, Nat.reduceAdd, Nat.reduceSub, Nat.reduceMul, Nat.reduceLeDiff, Nat.reduceLT, reduceIte, reduceCtorEq, forall_const, imp_self, Int.reduceNeg, Int.reduceLT, Int.reduceLE, Int.reduceGT, Int.reduceGE, Int.reduceAdd, Int.reduceSub, Int.reduceMul, Int.reduceToNat, Int.reduceEq, ne_eq, eq_self]
          rfl
        · have ha : a < k + 1 := ha
          show sqP l k ≤ _
          have hs : sqP l k < m := by unfold sqP; omega
          rcases Nat.lt_or_ge a k with hh | hh
          · have := hmin a hh; omega
          · obtain rfl : a = k := by omega
            exact Nat.le_refl _
      · refine ⟨(k + 1, m, true), ?_, ⟨by simp only; omega, .inr ⟨Nat.succ_pos _, rfl, fun a ha => ?_, j, Nat.lt_succ_of_lt hj, hmj⟩⟩, by simp only; omega⟩
        · simp only [st3, lp3_0, subC, atC, Tryd.f3, an3, g0, g1, w1, e1, c1, c2, h1, dyn_eq, drop16, List.append_nil, Int.toNat_natCast, AL, T3, T4, T22, T23, T25, T26, T28, T30, T33, T42, T44, T48, EL, e_finWf, e_finWt, e_finMN, e_finMX, retM, meltV, tupV, D.asBox, D.row1, D.freeR, D.freeO, List.replicate_succ, stepD, accs, accP, accW, simpleOp, isAl, isExt, flipD, D.fresh1, D.row, D.plain, D.plain.plainL, St.close, St.close1, St.borrow, retV, resV, resL, outCL, outC, outL, outD, wantedV, opV, An.mid, thawV, St.settle, D.plainU, prune, envOf, get, put, eval, evalT, nz, argsV, capsV, ofV, binV, binV.aggV, unV, intV, eqOp, isConst, natV, optV, loadV, loadC, storeV, setC, St.at_, partV, partTy, indexAddrV, fieldAddrV, sliceV, sliceV.rowSl, sliceV.strSl, bounds, cutP, builtinV, lenV, maxL, maxV, appendV, St.elems, roomy, rowOf, rowS, isStr, esz, tdOf, convV, buildV, fillV, partsV, okParts, fillL, D.whole, D.demoteC, D.demote, demoteL, D.global, D.flat, D.leaf, D.cells, TI.agg, TD.rowish, callOpV, moveL, CC, keepB, St.borrowL, St.borrow, D.isLsl, adoptR, adoptC, adoptCL, adoptL, adopt, List.toArray, Array.toList, Nat.reduceEqDiff, Nat.reduceAdd, Nat.reduceSub, Nat.reduceMul, Nat.reduceLeDiff, Nat.reduceLT, reduceIte, reduceCtorEq, forall_const, imp_self, Int.reduceNeg, Int.reduceLT, Int.reduceLE, Int.reduceGT, Int.reduceGE, Int.reduceAdd, Int.reduceSub, Int.reduceMul, Int.reduceToNat, Int.reduceEq, ne_eq, eq_self]
          refine ⟨_, rfl, ?_⟩
          show an3.at_ (some 15) _ = _
          simp only [an3, ren_map, toks_map, boxes_map, AL, An.at_, tidyV, tidyW, tidyB, tidyT, sift, envBoxes, envToks, conToks, D.toks, D.tok1, toksL, D.boxes, D.box1, boxesL, memN, posN, renE, D.ren, D.ren1, renL, renB, St.content, St.boxOk, St.tokOk, trues, T3, T4, T22, T23, T25, T26, T28, T30, T33, T42, T44, T48, EL, e_finWf, e_finWt, e_finMN, e_finMX, retM, meltV, tupV, D.asBox, D.row1, D.freeR, D.freeO, List.replicate_succ, stepD, accs, accP, accW, simpleOp, isAl, isExt, flipD, D.fresh1, D.row, D.plain, D.plain.plainL, St.close, St.close1, St.borrow, retV, resV, resL, outCL, outC, outL, outD, wantedV, opV, An.mid, thawV, St.settle, D.plainU, prune, envOf, get, put, eval, evalT, nz, argsV, capsV, ofV, binV, binV.aggV, unV, intV, eqOp, isConst, natV, optV, loadV, loadC, storeV, setC, St.at_, partV, partTy, indexAddrV, fieldAddrV, sliceV, sliceV.rowSl, sliceV.strSl, bounds, cutP, builtinV, lenV, maxL, maxV, appendV, St.elems, roomy, rowOf, rowS, isStr, esz, tdOf, convV, buildV, fillV, partsV, okParts, fillL, D.whole, D.demoteC, D.demote, demoteL, D.global, D.flat, D.leaf, D.cells, TI.agg, TD.rowish, callOpV, moveL, CC, keepB, St.borrowL, St.borrow, D.isLsl, adoptR, adoptC, adoptCL, adoptL, adopt, List.toArray, Array.toList, Nat.reduceEqDiff, Nat.reduceAdd, Nat.reduceSub, Nat.reduceMul, Nat.reduceLeDiff, Nat.reduceLT, reduceIte, reduceCtorEq, forall_const, imp_self, Int.reduceNeg, Int.reduceLT, Int.reduceLE, Int.reduceGT, Int.reduceGE, Int.reduceAdd, Int.reduceSub, Int.reduceMul, Int.reduceToNat, Int.reduceEq, ne_eq, eq_self]
        · have ha : a < k + 1 := ha
          show m ≤ _
          rcases Nat.lt_or_ge a k with hh | hh
          · exact hmin a hh
          · obtain rfl : a = k := by omega
            unfold sqP; omega
  · right
    obtain rfl : k = l.length := by omega
    have g0 : ¬ ((l.length : Nat) : Int) < l.length := by omega
    simp only [st3, lp3_0, subC, atC, Tryd.f3, an3, g0, T3, T4, T22, T23, T25, T26, T28, T30, T33, T42, T44, T48, EL, e_finWf, e_finWt, e_finMN, e_finMX, retM, meltV, tupV, D.asBox, D.row1, D.freeR, D.freeO, List.replicate_succ, stepD, accs, accP, accW, simpleOp, isAl, isExt, flipD, D.fresh1, D.row, D.plain, D.plain.plainL, St.close, St.close1, St.borrow, retV, resV, resL, outCL, outC, outL, outD, wantedV, opV, An.mid, thawV, St.settle, D.plainU, prune, envOf, get, put, eval, evalT, nz, argsV, capsV, ofV, binV, binV.aggV, unV, intV, eqOp, isConst, natV, optV, loadV, loadC, storeV, setC, St.at_, partV, partTy, indexAddrV, fieldAddrV, sliceV, sliceV.rowSl, sliceV.strSl, bounds, cutP, builtinV, lenV, maxL, maxV, appendV, St.elems, roomy, rowOf, rowS, isStr, esz, tdOf, convV, buildV, fillV, partsV, okParts, fillL, D.whole, D.demoteC, D.demote, demoteL, D.global, D.flat, D.leaf, D.cells, TI.agg, TD.rowish, callOpV, moveL, CC, keepB, St.borrowL, St.borrow, D.isLsl, adoptR, adoptC, adoptCL, adoptL, adopt, List.toArray, Array.toList, Nat.reduceEqDiff, Nat.reduceAdd, Nat.reduceSub, Nat.reduceMul, Nat.reduceLeDiff, Nat.reduceLT, reduceIte, reduceCtorEq, forall_const, imp_self, Int.reduceNeg, Int.reduceLT, Int.reduceLE, Int.reduceGT, Int.reduceGE, Int.reduceAdd, Int.reduceSub, Int.reduceMul, Int.reduceToNat, Int.reduceEq, ne_eq, eq_self]
    exact ⟨_, _, rfl, by simp, rfl, m, b, _, ⟨Nat.le_refl _, hI⟩, rfl, rfl, rfl, rfl, rfl, rfl⟩

set_option maxRecDepth 20000 in
set_option maxHeartbeats 4000000 in
theorem loop3_no (hC : Known18 C) (n : Nat) (l : List Pn) (hl : l.length ≤ 20) (hm : mayP n l = false) (st : St) (hst : an3.at_ (some 15) st = st3 n l (0, 0, false)) :
    ∃ x st', loopC T an3 C lp3_0 st = some (x, st') ∧ x = .exit 0 ∧ ∃ ρ, st' = ⟨ρ, (st3 n l (0, 0, false)).L, [true], []⟩ ∧ get ρ 3 = .lptr 0 0 ∧ get ρ 7 = .lptr 1 0 ∧ get ρ 22 = .lptr 2 0 ∧ get ρ 23 = .int .u64 0 ∧ get ρ 24 = .bool false := by
  have hL := hC.toLib18F
  have c1 := c24 hL.toLib18C n l (by omega) []
  rw [hm] at c1
  refine loop_rule (fun _ : Nat => st3 n l (0, 0, false)) (fun _ => True) (fun _ => 0) _ ?_ 0 st hst trivial
  rintro k -
  right
  simp only [st3]
  by_cases h : 0 < l.length
  · have g0 : ((0 : Nat) : Int) < l.length := by omega
    simp only [st3, lp3_0, subC, atC, Tryd.f3, an3, g0, c1, drop16, AL, T3, T4, T22, T23, T25, T26, T28, T30, T33, T42, T44, T48, EL, e_finWf, e_finWt, e_finMN, e_finMX, retM, meltV, tupV, D.asBox, D.row1, D.freeR, D.freeO, List.replicate_succ, stepD, accs, accP, accW, simpleOp, isAl, isExt, flipD, D.fresh1, D.row, D.plain, D.plain.plainL, St.close, St.close1, St.borrow, retV, resV, resL, outCL, outC, outL, outD, wantedV, opV, An.mid, thawV, St.settle, D.plainU, prune, envOf, get, put, eval, evalT, nz, argsV, capsV, ofV, binV, binV.aggV, unV, intV, eqOp, isConst, natV, optV, loadV, loadC, storeV, setC, St.at_, partV, partTy, indexAddrV, fieldAddrV, sliceV, sliceV.rowSl, sliceV.strSl, bounds, cutP, builtinV, lenV, maxL, maxV, appendV, St.elems, roomy, rowOf, rowS, isStr, esz, tdOf, convV, buildV, fillV, partsV, okParts, fillL, D.whole, D.demoteC, D.demote, demoteL, D.global, D.flat, D.leaf, D.cells, TI.agg, TD.rowish, callOpV, moveL, CC, keepB, St.borrowL, St.borrow, D.isLsl, adoptR, adoptC, adoptCL, adoptL, adopt, List.toArray, Array.toList, Nat.reduceEqDiff, Nat.reduceAdd, Nat.reduceSub, Nat.reduceMul, Nat.reduceLeDiff, Nat.reduceLT, reduceIte, reduceCtorEq, forall_const, imp_self, Int.reduceNeg, Int.reduceLT, Int.reduceLE, Int.reduceGT, Int.reduceGE, Int.reduceAdd, Int.reduceSub, Int.reduceMul, Int.reduceToNat, Int.reduceEq, ne_eq, eq_self]
    exact ⟨_, _, rfl, by simp, rfl, _, rfl, rfl, rfl, rfl, rfl, rfl⟩
  · have g0 : ¬ ((0 : Nat) : Int) < l.length := by omega
    simp only [st3, lp3_0, subC, atC, Tryd.f3, an3, g0, c1, drop16, AL, T3, T4, T22, T23, T25, T26, T28, T30, T33, T42, T44, T48, EL, e_finWf, e_finWt, e_finMN, e_finMX, retM, meltV, tupV, D.asBox, D.row1, D.freeR, D.freeO, List.replicate_succ, stepD, accs, accP, accW, simpleOp, isAl, isExt, flipD, D.fresh1, D.row, D.plain, D.plain.plainL, St.close, St.close1, St.borrow, retV, resV, resL, outCL, outC, outL, outD, wantedV, opV, An.mid, thawV, St.settle, D.plainU, prune, envOf, get, put, eval, evalT, nz, argsV, capsV, ofV, binV, binV.aggV, unV, intV, eqOp, isConst, natV, optV, loadV, loadC, storeV, setC, St.at_, partV, partTy, indexAddrV, fieldAddrV, sliceV, sliceV.rowSl, sliceV.strSl, bounds, cutP, builtinV, lenV, maxL, maxV, appendV, St.elems, roomy, rowOf, rowS, isStr, esz, tdOf, convV, buildV, fillV, partsV, okParts, fillL, D.whole, D.demoteC, D.demote, demoteL, D.global, D.flat, D.leaf, D.cells, TI.agg, TD.rowish, callOpV, moveL, CC, keepB, St.borrowL, St.borrow, D.isLsl, adoptR, adoptC, adoptCL, adoptL, adopt, List.toArray, Array.toList, Nat.reduceEqDiff, Nat.reduceAdd, Nat.reduceSub, Nat.reduceMul, Nat.reduceLeDiff, Nat.reduceLT, reduceIte, reduceCtorEq, forall_const, imp_self, Int.reduceNeg, Int.reduceLT, Int.reduceLE, Int.reduceGT, Int.reduceGE, Int.reduceAdd, Int.reduceSub, Int.reduceMul, Int.reduceToNat, Int.reduceEq, ne_eq, eq_self]
    exact ⟨_, _, rfl, by simp, rfl, _, rfl, rfl, rfl, rfl, rfl, rfl⟩

set_option maxRecDepth 20000 in
set_option maxHeartbeats 8000000 in
theorem run3_all (hC : Known18 C) (n : Nat) (l : List Pn) (h20 : l.length ≤ 20) (hw : WdL l) (id : Nat) (s : Nat → Nat) (n1 : Nat) (l1 : List Pn) (i1 e1 : Nat) (n2 : Nat) (l2 : List Pn) (e2 : Nat) (p : Pn) (e3 : Nat) (h1 : l1.length ≤ 1000) (h2 : l2.length ≤ 1000)
    (c3 : C 16 [.agg [.int .u64 (n : Nat), .vec 18 (l.map pnD) .none], .int .u64 (id : Nat), .agg (nums .u64 16 s)] [] = some (.tuple [.agg [.int .u64 (n1 : Nat), .vec 18 (l1.map pnD) .fresh], .int .u64 (i1 : Nat), errD e1], []))
    (c4 : C 17 [.agg [.int .u64 (n : Nat), .vec 18 (l.map pnD) .none], .int .u64 (id : Nat), .agg (nums .u64 16 s)] [] = some (.tuple [.agg [.int .u64 (n1 : Nat), .vec 18 (l1.map pnD) .fresh], .int .u64 (i1 : Nat), .int .i64 (e1 : Nat)], []))
    (c5 : C 18 [.agg [.int .u64 (n : Nat), .vec 18 (l.map pnD) .none], .int .u64 (id : Nat)] [] = some (.tuple [.agg [.int .u64 (n2 : Nat), .vec 18 (l2.map pnD) .fresh], errD e2], []))
    (c6 : C 19 [.agg [.int .u64 (n : Nat), .vec 18 (l.map pnD) .none], .int .u64 (id : Nat)] [] = some (.tuple [.agg [.int .u64 (n2 : Nat), .vec 18 (l2.map pnD) .fresh], .int .i64 (e2 : Nat)], []))
    (c7 : C 20 [.agg [.int .u64 (n : Nat), .vec 18 (l.map pnD) .none], .int .u64 (id : Nat)] [] = some (.tuple [.agg (.int .u64 (p.id : Nat) :: .int .u64 (p.sq : Nat) :: nums .u64 16 p.pg), errD e3], []))
    (c8 : C 21 [.agg [.int .u64 (n : Nat), .vec 18 (l.map pnD) .none], .int .u64 (id : Nat)] [] = some (.tuple [.agg (.int .u64 (p.id : Nat) :: .int .u64 (p.sq : Nat) :: nums .u64 16 p.pg), .int .i64 (e3 : Nat)], [])) :
    runV T C fi3 [psD n l, .int .u64 (id : Nat), .agg (nums .u64 16 s)] [] = some (.bool true, []) := by
  rw [e_run _ _ _ rfl]
  have hL := hC.toLib18F
  have c0 := c14 hC
  have c1 := c15 hL n l (by omega) []
  have g1 : ¬ (l.length : Int) > 20 := by omega
  have c9 := c22 hL n1 l1 h1 []
  have c10 := c22 hL n2 l2 h2 []
  have c11 := c22 hL n l (by omega) []
  have n1 := num_any hC e1 []
  have n2 := num_any hC e2 []
  have n3 := num_any hC e3 []
  have c12 := c28 hL.toLib18A n l (by omega) []
  have c13 := c24 hL.toLib18C n l (by omega) []
  have d1 := hL.f27 _ _ _ (run27 hL.toLib18E n l (by omega) hw [])
  have q0 := eqS18 (s := p.pg) (t := p.pg) (fun _ _ => rfl)
  cases hm : mayP n l with
  | true =>
    have lp := loop3 hC n l hm hw
    rw [hm, if_pos rfl, errD_zero] at c12
    rw [hm] at c13
    have q1 := eqS18 (s := heldP n l) (t := heldK l l.length) (fun i _ => by unfold heldP; rw [hm, if_pos rfl])
    generalize heldP n l = u at d1 q1
    simp only [fi3, Tryd.f3, an3, c0, c1, c3, c4, c5, c6, c7, c8, c9, c10, c11, n1, n2, n3, g1, q0, drop16, sC_nil, sC_zero, sC_succ, sC_16, AL, errD_dem, errD_demC, errD_bor, errD_out, errD_outC, errD_ado, errD_adoC, errD_adoR, errD_plain, errD_close, errD_lsl, errD_fresh, errD_freeO, errD_freeR, errD_glob, implies_true, false_implies, D.vec.injEq, adopt.eq_1, adopt.eq_2, adopt.eq_3, adoptC.eq_1, adoptC.eq_2, adoptR.eq_1, adoptR.eq_2, outD.eq_1, outD.eq_2, outD.eq_3, outC.eq_1, outC.eq_2, D.demote.eq_1, D.demote.eq_2, D.demoteC.eq_1, D.demoteC.eq_2, St.borrow.eq_1, St.borrow.eq_2, D.isLsl.eq_1, D.isLsl.eq_2, D.fresh1.eq_1, D.fresh1.eq_2, D.fresh1.eq_3, St.close.eq_1, St.close.eq_2, T3, T4, T22, T23, T25, T26, T28, T30, T33, T42, T44, T48, EL, e_finWf, e_finWt, e_finMN, e_finMX, retM, meltV, tupV, D.asBox, D.row1, D.freeR, D.freeO, List.replicate_succ, stepD, accs, accP, accW, simpleOp, isAl, isExt, flipD, D.row, D.plain, D.plain.plainL, St.close1, retV, resV, resL, outCL, outL, wantedV, opV, An.mid, thawV, St.settle, D.plainU, prune, envOf, get, put, eval, evalT, nz, argsV, capsV, ofV, binV, binV.aggV, unV, intV, eqOp, isConst, natV, optV, loadV, loadC, storeV, St.at_, partV, partTy, indexAddrV, fieldAddrV, sliceV, sliceV.rowSl, sliceV.strSl, bounds, cutP, builtinV, lenV, maxL, maxV, appendV, St.elems, roomy, rowOf, rowS, isStr, esz, tdOf, convV, buildV, fillV, partsV, okParts, fillL, D.whole, demoteL, D.global, D.flat, D.leaf, D.cells, TI.agg, TD.rowish, callOpV, moveL, CC, keepB, St.borrowL, adoptCL, adoptL, List.toArray, Array.toList, Nat.reduceEqDiff, Nat.reduceAdd, Nat.reduceSub, Nat.reduceMul, Nat.reduceLeDiff, Nat.reduceLT, reduceIte, reduceCtorEq, forall_const, imp_self, Int.reduceNeg, Int.reduceLT, Int.reduceLE, Int.reduceGT, Int.reduceGE, Int.reduceAdd, Int.reduceSub, Int.reduceMul, Int.reduceToNat, Int.reduceEq, ne_eq, eq_self]
    refine' in_loop (c' := lp3_0) (fin T _ _ _) ?h rfl ?q
    case h =>
      refine lp _ ?_
      simp only [an3, ren_map, toks_map, boxes_map, st3, pz0, AL, An.at_, tidyV, tidyW, tidyB, tidyT, sift, envBoxes, envToks, conToks, D.toks, D.tok1, toksL, D.boxes, D.box1, boxesL, memN, posN, renE, D.ren, D.ren1, renL, renB, St.content, St.boxOk, St.tokOk, trues, T3, T4, T22, T23, T25, T26, T28, T30, T33, T42, T44, T48, EL, e_finWf, e_finWt, e_finMN, e_finMX, retM, meltV, tupV, D.asBox, D.row1, D.freeR, D.freeO, List.replicate_succ, stepD, accs, accP, accW, simpleOp, isAl, isExt, flipD, D.fresh1, D.row, D.plain, D.plain.plainL, St.close, St.close1, St.borrow, retV, resV, resL, outCL, outC, outL, outD, wantedV, opV, An.mid, thawV, St.settle, D.plainU, prune, envOf, get, put, eval, evalT, nz, argsV, capsV, ofV, binV, binV.aggV, unV, intV, eqOp, isConst, natV, optV, loadV, loadC, storeV, setC, St.at_, partV, partTy, indexAddrV, fieldAddrV, sliceV, sliceV.rowSl, sliceV.strSl, bounds, cutP, builtinV, lenV, maxL, maxV, appendV, St.elems, roomy, rowOf, rowS, isStr, esz, tdOf, convV, buildV, fillV, partsV, okParts, fillL, D.whole, D.demoteC, D.demote, demoteL, D.global, D.flat, D.leaf, D.cells, TI.agg, TD.rowish, callOpV, moveL, CC, keepB, St.borrowL, St.borrow, D.isLsl, adoptR, adoptC, adoptCL, adoptL, adopt, List.toArray, Array.toList, Nat.reduceEqDiff, Nat.reduceAdd, Nat.reduceSub, Nat.reduceMul, Nat.reduceLeDiff, Nat.reduceLT, reduceIte, reduceCtorEq, forall_const, imp_self, Int.reduceNeg, Int.reduceLT, Int.reduceLE, Int.reduceGT, Int.reduceGE, Int.reduceAdd, Int.reduceSub, Int.reduceMul, Int.reduceToNat, Int.reduceEq, ne_eq, eq_self]
      all_goals rfl
    rintro x st' ⟨rfl, m, b, ρ, ⟨_, hI⟩, rfl, r3, r7, r22, r23, r24⟩
    simp only at hI
    rcases hI with ⟨h0, rfl, rfl⟩ | ⟨h0, rfl, hmin, j, hj, rfl⟩
    · have c14 := hL.f26 _ _ _ (run26_no hL.toLib18E n l (by omega) (.inr (List.length_eq_zero_iff.1 h0)) [])
      simp only [st3, r3, r7, r22, r23, r24, c0, c12, c13, c14, d1, q1, dyn_eq, pz0, sC_nil, sC_zero, sC_succ, AL, T3, T4, T22, T23, T25, T26, T28, T30, T33, T42, T44, T48, EL, e_finWf, e_finWt, e_finMN, e_finMX, retM, meltV, tupV, D.asBox, D.row1, D.freeR, D.freeO, List.replicate_succ, stepD, accs, accP, accW, simpleOp, isAl, isExt, flipD, D.fresh1, D.row, D.plain, D.plain.plainL, St.close, St.close1, St.borrow, retV, resV, resL, outCL, outC, outL, outD, wantedV, opV, An.mid, thawV, St.settle, D.plainU, prune, envOf, get, put, eval, evalT, nz, argsV, capsV, ofV, binV, binV.aggV, unV, intV, eqOp, isConst, natV, optV, loadV, loadC, storeV, St.at_, partV, partTy, indexAddrV, fieldAddrV, sliceV, sliceV.rowSl, sliceV.strSl, bounds, cutP, builtinV, lenV, maxL, maxV, appendV, St.elems, roomy, rowOf, rowS, isStr, esz, tdOf, convV, buildV, fillV, partsV, okParts, fillL, D.whole, D.demoteC, D.demote, demoteL, D.global, D.flat, D.leaf, D.cells, TI.agg, TD.rowish, callOpV, moveL, CC, keepB, St.borrowL, St.borrow, D.isLsl, adoptR, adoptC, adoptCL, adoptL, adopt, List.toArray, Array.toList, Nat.reduceEqDiff, Nat.reduceAdd, Nat.reduceSub, Nat.reduceMul, Nat.reduceLeDiff, Nat.reduceLT, reduceIte, reduceCtorEq, forall_const, imp_self, Int.reduceNeg, Int.reduceLT, Int.reduceLE, Int.reduceGT, Int.reduceGE, Int.reduceAdd, Int.reduceSub, Int.reduceMul, Int.reduceToNat, Int.reduceEq, ne_eq, eq_self]
      done
    · obtain ⟨j2, hj2, hmin2, c14⟩ := run26_yes hL.toLib18E n l hm h0 []
      have c14 := hL.f26 _ _ _ c14
      have ej : sqP l j2 = sqP l j := Nat.le_antisymm (hmin2 j hj) (hmin j2 hj2)
      rw [ej] at c14
      simp only [st3, r3, r7, r22, r23, r24, c0, c12, c13, c14, d1, q1, dyn_eq, pz0, sC_nil, sC_zero, sC_succ, AL, T3, T4, T22, T23, T25, T26, T28, T30, T33, T42, T44, T48, EL, e_finWf, e_finWt, e_finMN, e_finMX, retM, meltV, tupV, D.asBox, D.row1, D.freeR, D.freeO, List.replicate_succ, stepD, accs, accP, accW, simpleOp, isAl, isExt, flipD, D.fresh1, D.row, D.plain, D.plain.plainL, St.close, St.close1, St.borrow, retV, resV, resL, outCL, outC, outL, outD, wantedV, opV, An.mid, thawV, St.settle, D.plainU, prune, envOf, get, put, eval, evalT, nz, argsV, capsV, ofV, binV, binV.aggV, unV, intV, eqOp, isConst, natV, optV, loadV, loadC, storeV, St.at_, partV, partTy, indexAddrV, fieldAddrV, sliceV, sliceV.rowSl, sliceV.strSl, bounds, cutP, builtinV, lenV, maxL, maxV, appendV, St.elems, roomy, rowOf, rowS, isStr, esz, tdOf, convV, buildV, fillV, partsV, okParts, fillL, D.whole, D.demoteC, D.demote, demoteL, D.global, D.flat, D.leaf, D.cells, TI.agg, TD.rowish, callOpV, moveL, CC, keepB, St.borrowL, St.borrow, D.isLsl, adoptR, adoptC, adoptCL, adoptL, adopt, List.toArray, Array.toList, Nat.reduceEqDiff, Nat.reduceAdd, Nat.reduceSub, Nat.reduceMul, Nat.reduceLeDiff, Nat.reduceLT, reduceIte, reduceCtorEq, forall_const, imp_self, Int.reduceNeg, Int.reduceLT, Int.reduceLE, Int.reduceGT, Int.reduceGE, Int.reduceAdd, Int.reduceSub, Int.reduceMul, Int.reduceToNat, Int.reduceEq, ne_eq, eq_self]
      done
  | false =>
    have lp := loop3_no hC n l h20 hm
    rw [hm, if_neg (by decide), errD_pos (by decide)] at c12
    rw [hm] at c13
    have q1 := eqS18 (s := heldP n l) (t := heldK l 0) (fun i _ => by unfold heldP; rw [hm, if_neg (by decide)]; rfl)
    have c14 := hL.f26 _ _ _ (run26_no hL.toLib18E n l (by omega) (.inl hm) [])
    generalize heldP n l = u at d1 q1
    simp only [fi3, Tryd.f3, an3, c0, c1, c3, c4, c5, c6, c7, c8, c9, c10, c11, n1, n2, n3, g1, q0, drop16, sC_nil, sC_zero, sC_succ, sC_16, AL, errD_dem, errD_demC, errD_bor, errD_out, errD_outC, errD_ado, errD_adoC, errD_adoR, errD_plain, errD_close, errD_lsl, errD_fresh, errD_freeO, errD_freeR, errD_glob, implies_true, false_implies, D.vec.injEq, adopt.eq_1, adopt.eq_2, adopt.eq_3, adoptC.eq_1, adoptC.eq_2, adoptR.eq_1, adoptR.eq_2, outD.eq_1, outD.eq_2, outD.eq_3, outC.eq_1, outC.eq_2, D.demote.eq_1, D.demote.eq_2, D.demoteC.eq_1, D.demoteC.eq_2, St.borrow.eq_1, St.borrow.eq_2, D.isLsl.eq_1, D.isLsl.eq_2, D.fresh1.eq_1, D.fresh1.eq_2, D.fresh1.eq_3, St.close.eq_1, St.close.eq_2, T3, T4, T22, T23, T25, T26, T28, T30, T33, T42, T44, T48, EL, e_finWf, e_finWt, e_finMN, e_finMX, retM, meltV, tupV, D.asBox, D.row1, D.freeR, D.freeO, List.replicate_succ, stepD, accs, accP, accW, simpleOp, isAl, isExt, flipD, D.row, D.plain, D.plain.plainL, St.close1, retV, resV, resL, outCL, outL, wantedV, opV, An.mid, thawV, St.settle, D.plainU, prune, envOf, get, put, eval, evalT, nz, argsV, capsV, ofV, binV, binV.aggV, unV, intV, eqOp, isConst, natV, optV, loadV, loadC, storeV, St.at_, partV, partTy, indexAddrV, fieldAddrV, sliceV, sliceV.rowSl, sliceV.strSl, bounds, cutP, builtinV, lenV, maxL, maxV, appendV, St.elems, roomy, rowOf, rowS, isStr, esz, tdOf, convV, buildV, fillV, partsV, okParts, fillL, D.whole, demoteL, D.global, D.flat, D.leaf, D.cells, TI.agg, TD.rowish, callOpV, moveL, CC, keepB, St.borrowL, adoptCL, adoptL, List.toArray, Array.toList, Nat.reduceEqDiff, Nat.reduceAdd, Nat.reduceSub, Nat.reduceMul, Nat.reduceLeDiff, Nat.reduceLT, reduceIte, reduceCtorEq, forall_const, imp_self, Int.reduceNeg, Int.reduceLT, Int.reduceLE, Int.reduceGT, Int.reduceGE, Int.reduceAdd, Int.reduceSub, Int.reduceMul, Int.reduceToNat, Int.reduceEq, ne_eq, eq_self]
    refine' in_loop (c' := lp3_0) (fin T _ _ _) ?hk rfl ?qk
    case hk =>
      refine lp _ ?_
      simp only [an3, ren_map, toks_map, boxes_map, st3, pz0, AL, An.at_, tidyV, tidyW, tidyB, tidyT, sift, envBoxes, envToks, conToks, D.toks, D.tok1, toksL, D.boxes, D.box1, boxesL, memN, posN, renE, D.ren, D.ren1, renL, renB, St.content, St.boxOk, St.tokOk, trues, T3, T4, T22, T23, T25, T26, T28, T30, T33, T42, T44, T48, EL, e_finWf, e_finWt, e_finMN, e_finMX, retM, meltV, tupV, D.asBox, D.row1, D.freeR, D.freeO, List.replicate_succ, stepD, accs, accP, accW, simpleOp, isAl, isExt, flipD, D.fresh1, D.row, D.plain, D.plain.plainL, St.close, St.close1, St.borrow, retV, resV, resL, outCL, outC, outL, outD, wantedV, opV, An.mid, thawV, St.settle, D.plainU, prune, envOf, get, put, eval, evalT, nz, argsV, capsV, ofV, binV, binV.aggV, unV, intV, eqOp, isConst, natV, optV, loadV, loadC, storeV, setC, St.at_, partV, partTy, indexAddrV, fieldAddrV, sliceV, sliceV.rowSl, sliceV.strSl, bounds, cutP, builtinV, lenV, maxL, maxV, appendV, St.elems, roomy, rowOf, rowS, isStr, esz, tdOf, convV, buildV, fillV, partsV, okParts, fillL, D.whole, D.demoteC, D.demote, demoteL, D.global, D.flat, D.leaf, D.cells, TI.agg, TD.rowish, callOpV, moveL, CC, keepB, St.borrowL, St.borrow, D.isLsl, adoptR, adoptC, adoptCL, adoptL, adopt, List.toArray, Array.toList, Nat.reduceEqDiff, Nat.reduceAdd, Nat.reduceSub, Nat.reduceMul, Nat.reduceLeDiff, Nat.reduceLT, reduceIte, reduceCtorEq, forall_const, imp_self, Int.reduceNeg, Int.reduceLT, Int.reduceLE, Int.reduceGT, Int.reduceGE, Int.reduceAdd, Int.reduceSub, Int.reduceMul, Int.reduceToNat, Int.reduceEq, ne_eq, eq_self]
      all_goals rfl
    rintro x st' ⟨rfl, ρ, rfl, r3, r7, r22, r23, r24⟩
    simp only [st3, r3, r7, r22, r23, r24, c0, c12, c13, c14, d1, q1, dyn_eq, pz0, sC_nil, sC_zero, sC_succ, AL, T3, T4, T22, T23, T25, T26, T28, T30, T33, T42, T44, T48, EL, e_finWf, e_finWt, e_finMN, e_finMX, retM, meltV, tupV, D.asBox, D.row1, D.freeR, D.freeO, List.replicate_succ, stepD, accs, accP, accW, simpleOp, isAl, isExt, flipD, D.fresh1, D.row, D.plain, D.plain.plainL, St.close, St.close1, St.borrow, retV, resV, resL, outCL, outC, outL, outD, wantedV, opV, An.mid, thawV, St.settle, D.plainU, prune, envOf, get, put, eval, evalT, nz, argsV, capsV, ofV, binV, binV.aggV, unV, intV, eqOp, isConst, natV, optV, loadV, loadC, storeV, St.at_, partV, partTy, indexAddrV, fieldAddrV, sliceV, sliceV.rowSl, sliceV.strSl, bounds, cutP, builtinV, lenV, maxL, maxV, appendV, St.elems, roomy, rowOf, rowS, isStr, esz, tdOf, convV, buildV, fillV, partsV, okParts, fillL, D.whole, D.demoteC, D.demote, demoteL, D.global, D.flat, D.leaf, D.cells, TI.agg, TD.rowish, callOpV, moveL, CC, keepB, St.borrowL, St.borrow, D.isLsl, adoptR, adoptC, adoptCL, adoptL, adopt, List.toArray, Array.toList, Nat.reduceEqDiff, Nat.reduceAdd, Nat.reduceSub, Nat.reduceMul, Nat.reduceLeDiff, Nat.reduceLT, reduceIte, reduceCtorEq, forall_const, imp_self, Int.reduceNeg, Int.reduceLT, Int.reduceLE, Int.reduceGT, Int.reduceGE, Int.reduceAdd, Int.reduceSub, Int.reduceMul, Int.reduceToNat, Int.reduceEq, ne_eq, eq_self]
    done

theorem run3 (hC : Known18 C) (n : Nat) (l : List Pn) (hl : l.length * 144 ≤ 140737488351232) (hw : WdL l) (id : Nat) (s : Nat → Nat) : runV T C fi3 [psD n l, .int .u64 (id : Nat), .agg (nums .u64 16 s)] [] = some (.bool true, []) := by
  have hL := hC.toLib18F
  by_cases h20 : l.length ≤ 20
  · have o := h20
    by_cases he : opE n l = 0
    · have c3 := hL.f16 _ _ _ (run16_ok hL.toLib18D n l id s he [])
      have c4 := hL.f17 _ _ _ (run17_ok hL.toLib18D n l id s he [])
      have hm : mayP n l = true := by
        unfold opE at he
        by_cases hx : mayP n l = true
        · exact hx
        · rw [if_neg hx] at he; cases he
      rcases run21_all hL.toLib18C n l hm id [] with ⟨i, hi, c8⟩ | ⟨hi, c8⟩
      · exact run3_all hC n l o hw id s (n + 1) (l ++ [(⟨n + 1, id, s⟩ : Pn)]) (n + 1) 0 n (cutL l i) 0 (l.getD i default) 0 (by simp; omega) (by unfold cutL; simp; omega) c3 c4 (hC.clo_hit n l id i hm hi) (hL.f19 _ _ _ (run19_hit hL.toLib18C n l hm hi [])) (hL.f20 _ _ _ (run20_hit hL.toLib18B n l hm hi [])) (hL.f21 _ _ _ c8)
      · exact run3_all hC n l o hw id s (n + 1) (l ++ [(⟨n + 1, id, s⟩ : Pn)]) (n + 1) 0 0 [] 6 pn0 6 (by simp; omega) (by simp) c3 c4 (hC.clo_miss n l id hm hi) (hL.f19 _ _ _ (run19_miss hL.toLib18C n l hm hi [])) (hL.f20 _ _ _ (run20_miss hL.toLib18B n l hm hi [])) (hL.f21 _ _ _ c8)
    · have c3 := hL.f16 _ _ _ (run16_err hL.toLib18D n l (by omega) id s he [])
      have c4 := hL.f17 _ _ _ (run17_err hL.toLib18D n l (by omega) id s he [])
      cases hm : mayP n l with
      | true =>
        rcases run21_all hL.toLib18C n l hm id [] with ⟨i, hi, c8⟩ | ⟨hi, c8⟩
        · exact run3_all hC n l o hw id s 0 [] 0 (opE n l) n (cutL l i) 0 (l.getD i default) 0 (by simp) (by unfold cutL; simp; omega) c3 c4 (hC.clo_hit n l id i hm hi) (hL.f19 _ _ _ (run19_hit hL.toLib18C n l hm hi [])) (hL.f20 _ _ _ (run20_hit hL.toLib18B n l hm hi [])) (hL.f21 _ _ _ c8)
        · exact run3_all hC n l o hw id s 0 [] 0 (opE n l) 0 [] 6 pn0 6 (by simp) (by simp) c3 c4 (hC.clo_miss n l id hm hi) (hL.f19 _ _ _ (run19_miss hL.toLib18C n l hm hi [])) (hL.f20 _ _ _ (run20_miss hL.toLib18B n l hm hi [])) (hL.f21 _ _ _ c8)
      | false =>
        exact run3_all hC n l o hw id s 0 [] 0 (opE n l) 0 [] 1 pn0 1 (by simp) (by simp) c3 c4 (hC.clo_bad n l id (by omega) hm) (hL.f19 _ _ _ (run19_bad hL.toLib18C n l (by omega) hm id [])) (hL.f20 _ _ _ (run20_bad hL.toLib18B n l (by omega) hm id [])) (hL.f21 _ _ _ (run21_bad hL.toLib18C n l (by omega) hm id []))
  · have g1 : (l.length : Int) > 20 := by omega
    have c0 := c14 hC
    rw [e_run _ _ _ rfl]
    simp only [fi3, Tryd.f3, an3, c0, g1, sC_nil, sC_zero, sC_succ, AL, T3, T4, T22, T23, T25, T26, T28, T30, T33, T42, T44, T48, EL, e_finWf, e_finWt, e_finMN, e_finMX, retM, meltV, tupV, D.asBox, D.row1, D.freeR, D.freeO, List.replicate_succ, stepD, accs, accP, accW, simpleOp, isAl, isExt, flipD, D.fresh1, D.row, D.plain, D.plain.plainL, St.close, St.close1, St.borrow, retV, resV, resL, outCL, outC, outL, outD, wantedV, opV, An.mid, thawV, St.settle, D.plainU, prune, envOf, get, put, eval, evalT, nz, argsV, capsV, ofV, binV, binV.aggV, unV, intV, eqOp, isConst, natV, optV, loadV, loadC, storeV, St.at_, partV, partTy, indexAddrV, fieldAddrV, sliceV, sliceV.rowSl, sliceV.strSl, bounds, cutP, builtinV, lenV, maxL, maxV, appendV, St.elems, roomy, rowOf, rowS, isStr, esz, tdOf, convV, buildV, fillV, partsV, okParts, fillL, D.whole, D.demoteC, D.demote, demoteL, D.global, D.flat, D.leaf, D.cells, TI.agg, TD.rowish, callOpV, moveL, CC, keepB, St.borrowL, St.borrow, D.isLsl, adoptR, adoptC, adoptCL, adoptL, adopt, List.toArray, Array.toList, Nat.reduceEqDiff, Nat.reduceAdd, Nat.reduceSub, Nat.reduceMul, Nat.reduceLeDiff, Nat.reduceLT, reduceIte, reduceCtorEq, forall_const, imp_self, Int.reduceNeg, Int.reduceLT, Int.reduceLE, Int.reduceGT, Int.reduceGE, Int.reduceAdd, Int.reduceSub, Int.reduceMul, Int.reduceToNat, Int.reduceEq, ne_eq, eq_self]
    done

end Go.Proofs.YtnhelkclkdfndaaDoor.V
