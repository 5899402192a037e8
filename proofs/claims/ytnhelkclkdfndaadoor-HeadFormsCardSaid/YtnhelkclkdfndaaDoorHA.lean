/-
Layer 19: heads: what the program's functions compute.
-/
import Derived.Test.YtnhelkclkdfndaaDoorHP
import Derived.Test.YtnhelkclkdfndaaDoorPC
namespace Go.Proofs.YtnhelkclkdfndaaDoor.V
open Go Go.RowKit
set_option linter.unusedSimpArgs false
set_option linter.unusedVariables false

/-! warren/head.Check -/
def an39 : An := ⟨fun _ => .none, fun _ => 0, fun _ => false, fun _ => .none⟩
noncomputable def fi39 : FI := ⟨1, 49, Tryd.f39.body.getD .skip, Tryd.f39.results.toList, an39, false, false, false⟩
theorem ok39 : FnOk Tryd.prog 39 fi39 := ⟨⟨Tryd.f39, Tryd.func39, by kernel_rfl, rfl, rfl, rfl⟩, by decide, by kernel_rfl, fun h => by cases h⟩
/-! warren/head.Encode -/
def an32 : An := ⟨fun | 6 => some [5, 25, 26] | _ => .none, fun | 34 => 1 | _ => 0, fun _ => false, fun _ => .none⟩
noncomputable def fi32 : FI := ⟨1, 37, Tryd.f32.body.getD .skip, Tryd.f32.results.toList, an32, false, false, true⟩
theorem ok32 : FnOk Tryd.prog 32 fi32 := ⟨⟨Tryd.f32, Tryd.func32, by kernel_rfl, rfl, rfl, rfl⟩, by decide, by kernel_rfl, fun h => by cases h⟩
noncomputable def lp32_0 : Code := subC [1, 1, 1, 0, 1, 0, 0] (Tryd.f32.body.getD .skip)   -- head 6 keep [5, 25, 26]
/-! warren/head.Decode -/
def an34 : An := ⟨fun _ => .none, fun _ => 0, fun _ => false, fun _ => .none⟩
noncomputable def fi34 : FI := ⟨1, 49, Tryd.f34.body.getD .skip, Tryd.f34.results.toList, an34, false, true, false⟩
theorem ok34 : FnOk Tryd.prog 34 fi34 := ⟨⟨Tryd.f34, Tryd.func34, by kernel_rfl, rfl, rfl, rfl⟩, by decide, by kernel_rfl, fun h => by cases h⟩
/-! warren/head.Slot -/
def an41 : An := ⟨fun _ => .none, fun _ => 0, fun _ => false, fun _ => .none⟩
noncomputable def fi41 : FI := ⟨1, 6, Tryd.f41.body.getD .skip, Tryd.f41.results.toList, an41, false, false, false⟩
theorem ok41 : FnOk Tryd.prog 41 fi41 := ⟨⟨Tryd.f41, Tryd.func41, by kernel_rfl, rfl, rfl, rfl⟩, by decide, by kernel_rfl, fun h => by cases h⟩
/-! warren/head.Pick -/
def an36 : An := ⟨fun | 4 => some [4, 6, 7, 14, 15] | _ => .none, fun _ => 0, fun _ => false, fun _ => .none⟩
noncomputable def fi36 : FI := ⟨2, 50, Tryd.f36.body.getD .skip, Tryd.f36.results.toList, an36, false, false, false⟩
theorem ok36 : FnOk Tryd.prog 36 fi36 := ⟨⟨Tryd.f36, Tryd.func36, by kernel_rfl, rfl, rfl, rfl⟩, by decide, by kernel_rfl, fun h => by cases h⟩
noncomputable def lp36_0 : Code := subC [1, 1, 1, 0, 1, 0, 0] (Tryd.f36.body.getD .skip)   -- head 4 keep [4, 6, 7, 14, 15]
/-! warren/warrenref19.May -/
def an40 : An := ⟨fun _ => .none, fun _ => 0, fun _ => false, fun _ => .none⟩
noncomputable def fi40 : FI := ⟨1, 40, Tryd.f40.body.getD .skip, Tryd.f40.results.toList, an40, false, false, false⟩
theorem ok40 : FnOk Tryd.prog 40 fi40 := ⟨⟨Tryd.f40, Tryd.func40, by kernel_rfl, rfl, rfl, rfl⟩, by decide, by kernel_rfl, fun h => by cases h⟩
/-! warren/warrenref19.Encode -/
def an33 : An := ⟨fun _ => .none, fun _ => 0, fun _ => false, fun _ => .none⟩
noncomputable def fi33 : FI := ⟨1, 29, Tryd.f33.body.getD .skip, Tryd.f33.results.toList, an33, false, false, false⟩
theorem ok33 : FnOk Tryd.prog 33 fi33 := ⟨⟨Tryd.f33, Tryd.func33, by kernel_rfl, rfl, rfl, rfl⟩, by decide, by kernel_rfl, fun h => by cases h⟩
/-! warren/warrenref19.Decode -/
def an35 : An := ⟨fun | 7 => some [2, 4, 7, 8, 9] | _ => .none, fun _ => 0, fun _ => false, fun _ => .none⟩
noncomputable def fi35 : FI := ⟨1, 74, Tryd.f35.body.getD .skip, Tryd.f35.results.toList, an35, false, false, false⟩
theorem ok35 : FnOk Tryd.prog 35 fi35 := ⟨⟨Tryd.f35, Tryd.func35, by kernel_rfl, rfl, rfl, rfl⟩, by decide, by kernel_rfl, fun h => by cases h⟩
noncomputable def lp35_0 : Code := subC [1, 1, 1, 1, 1, 0, 1, 0, 0] (Tryd.f35.body.getD .skip)   -- head 7 keep [2, 4, 7, 8, 9]
/-! warren/warrenref19.Pick -/
def an37 : An := ⟨fun _ => .none, fun _ => 0, fun _ => false, fun _ => .none⟩
noncomputable def fi37 : FI := ⟨2, 59, Tryd.f37.body.getD .skip, Tryd.f37.results.toList, an37, false, false, false⟩
theorem ok37 : FnOk Tryd.prog 37 fi37 := ⟨⟨Tryd.f37, Tryd.func37, by kernel_rfl, rfl, rfl, rfl⟩, by decide, by kernel_rfl, fun h => by cases h⟩
structure Lib19 (C : Callees) : Prop extends Lib05 C, LibPackB C where
  f39 : Has T C 39 fi39
  f32 : Has T C 32 fi32
  f34 : Has T C 34 fi34
  f41 : Has T C 41 fi41
  f36 : Has T C 36 fi36
  f40 : Has T C 40 fi40
  f33 : Has T C 33 fi33
  f35 : Has T C 35 fi35
  f37 : Has T C 37 fi37

variable {C : Callees}

theorem nlit (n : Nat) : (Nat.cast (no_index (OfNat.ofNat n)) : Int) = OfNat.ofNat n := rfl

theorem may_iff (a b c : Nat) (r e : Int) : (Hd.mk a b c r e).may = true ↔ a ≤ 4611686018427387904 ∧ b ≤ 4611686018427387904 ∧ c ≤ 4611686018427387904 ∧ 0 ≤ e ∧ e ≤ 4096 ∧ (e = 0 → r = 0) ∧ (¬ e = 0 → 2 ≤ r ∧ r ≤ 1023) := by
  unfold Hd.may
  simp only [Bool.and_eq_true, decide_eq_true_eq]
  by_cases h : e = 0
  · simp [h, and_assoc]
  · simp [h, and_assoc]
theorem may_no {a b c : Nat} {r e : Int} (h : ¬ (a ≤ 4611686018427387904 ∧ b ≤ 4611686018427387904 ∧ c ≤ 4611686018427387904 ∧ 0 ≤ e ∧ e ≤ 4096 ∧ (e = 0 → r = 0) ∧ (¬ e = 0 → 2 ≤ r ∧ r ≤ 1023))) : (Hd.mk a b c r e).may = false := by
  rw [Bool.eq_false_iff, ne_eq, may_iff]; exact h
theorem may_yes {a b c : Nat} {r e : Int} (h : a ≤ 4611686018427387904 ∧ b ≤ 4611686018427387904 ∧ c ≤ 4611686018427387904 ∧ 0 ≤ e ∧ e ≤ 4096 ∧ (e = 0 → r = 0) ∧ (¬ e = 0 → 2 ≤ r ∧ r ≤ 1023)) : (Hd.mk a b c r e).may = true := (may_iff a b c r e).2 h

def mayE (h : Hd) : Nat := if h.may = true then 0 else 1

set_option maxRecDepth 10000 in
theorem run39 (C : Callees) (h : Hd) (B : Hp) : runV T C fi39 [h.D] B = some (errD (mayE h), B) := by
  obtain ⟨a, b, c, r, e⟩ := h
  rw [e_run _ _ _ rfl]
  unfold mayE Hd.D
  by_cases k1 : (a : Int) > 4611686018427387904
  · rw [may_no (by omega)]
    simp only [fi39, Tryd.f39, an39, k1, T3, T22, T71, T163, EL, e_finWf, e_finWt, e_finMN, e_finMX, retM, meltV, tupV, D.asBox, D.row1, D.freeR, D.freeO, List.replicate_succ, stepD, accs, accP, accW, simpleOp, isAl, isExt, flipD, D.fresh1, D.row, D.plain, D.plain.plainL, St.close, St.close1, St.borrow, retV, resV, resL, outCL, outC, outL, outD, wantedV, opV, An.mid, thawV, St.settle, D.plainU, prune, envOf, get, put, eval, evalT, nz, argsV, capsV, ofV, binV, binV.aggV, unV, intV, eqOp, isConst, natV, optV, loadV, loadC, storeV, setC, St.at_, partV, partTy, indexAddrV, fieldAddrV, sliceV, sliceV.rowSl, sliceV.strSl, bounds, cutP, builtinV, lenV, maxL, maxV, appendV, St.elems, roomy, rowOf, rowS, isStr, esz, tdOf, convV, buildV, fillV, partsV, okParts, fillL, D.whole, D.demoteC, D.demote, demoteL, D.global, D.flat, D.leaf, D.cells, TI.agg, TD.rowish, callOpV, moveL, CC, keepB, St.borrowL, St.borrow, D.isLsl, adoptR, adoptC, adoptCL, adoptL, adopt, List.toArray, Array.toList, Nat.reduceEqDiff, Nat.reduceAdd, Nat.reduceSub, Nat.reduceMul, Nat.reduceLeDiff, Nat.reduceLT, reduceIte, reduceCtorEq, forall_const, imp_self, Int.reduceNeg, Int.reduceLT, Int.reduceLE, Int.reduceGT, Int.reduceGE, Int.reduceAdd, Int.reduceSub, Int.reduceMul, Int.reduceToNat, Int.reduceEq, ne_eq, eq_self]
    rfl
  by_cases k2 : (b : Int) > 4611686018427387904
  · rw [may_no (by omega)]
    simp only [fi39, Tryd.f39, an39, k1, k2, T3, T22, T71, T163, EL, e_finWf, e_finWt, e_finMN, e_finMX, retM, meltV, tupV, D.asBox, D.row1, D.freeR, D.freeO, List.replicate_succ, stepD, accs, accP, accW, simpleOp, isAl, isExt, flipD, D.fresh1, D.row, D.plain, D.plain.plainL, St.close, St.close1, St.borrow, retV, resV, resL, outCL, outC, outL, outD, wantedV, opV, An.mid, thawV, St.settle, D.plainU, prune, envOf, get, put, eval, evalT, nz, argsV, capsV, ofV, binV, binV.aggV, unV, intV, eqOp, isConst, natV, optV, loadV, loadC, storeV, setC, St.at_, partV, partTy, indexAddrV, fieldAddrV, sliceV, sliceV.rowSl, sliceV.strSl, bounds, cutP, builtinV, lenV, maxL, maxV, appendV, St.elems, roomy, rowOf, rowS, isStr, esz, tdOf, convV, buildV, fillV, partsV, okParts, fillL, D.whole, D.demoteC, D.demote, demoteL, D.global, D.flat, D.leaf, D.cells, TI.agg, TD.rowish, callOpV, moveL, CC, keepB, St.borrowL, St.borrow, D.isLsl, adoptR, adoptC, adoptCL, adoptL, adopt, List.toArray, Array.toList, Nat.reduceEqDiff, Nat.reduceAdd, Nat.reduceSub, Nat.reduceMul, Nat.reduceLeDiff, Nat.reduceLT, reduceIte, reduceCtorEq, forall_const, imp_self, Int.reduceNeg, Int.reduceLT, Int.reduceLE, Int.reduceGT, Int.reduceGE, Int.reduceAdd, Int.reduceSub, Int.reduceMul, Int.reduceToNat, Int.reduceEq, ne_eq, eq_self]
    rfl
  by_cases k3 : (c : Int) > 4611686018427387904
  · rw [may_no (by omega)]
    simp only [fi39, Tryd.f39, an39, k1, k2, k3, T3, T22, T71, T163, EL, e_finWf, e_finWt, e_finMN, e_finMX, retM, meltV, tupV, D.asBox, D.row1, D.freeR, D.freeO, List.replicate_succ, stepD, accs, accP, accW, simpleOp, isAl, isExt, flipD, D.fresh1, D.row, D.plain, D.plain.plainL, St.close, St.close1, St.borrow, retV, resV, resL, outCL, outC, outL, outD, wantedV, opV, An.mid, thawV, St.settle, D.plainU, prune, envOf, get, put, eval, evalT, nz, argsV, capsV, ofV, binV, binV.aggV, unV, intV, eqOp, isConst, natV, optV, loadV, loadC, storeV, setC, St.at_, partV, partTy, indexAddrV, fieldAddrV, sliceV, sliceV.rowSl, sliceV.strSl, bounds, cutP, builtinV, lenV, maxL, maxV, appendV, St.elems, roomy, rowOf, rowS, isStr, esz, tdOf, convV, buildV, fillV, partsV, okParts, fillL, D.whole, D.demoteC, D.demote, demoteL, D.global, D.flat, D.leaf, D.cells, TI.agg, TD.rowish, callOpV, moveL, CC, keepB, St.borrowL, St.borrow, D.isLsl, adoptR, adoptC, adoptCL, adoptL, adopt, List.toArray, Array.toList, Nat.reduceEqDiff, Nat.reduceAdd, Nat.reduceSub, Nat.reduceMul, Nat.reduceLeDiff, Nat.reduceLT, reduceIte, reduceCtorEq, forall_const, imp_self, Int.reduceNeg, Int.reduceLT, Int.reduceLE, Int.reduceGT, Int.reduceGE, Int.reduceAdd, Int.reduceSub, Int.reduceMul, Int.reduceToNat, Int.reduceEq, ne_eq, eq_self]
    rfl
  by_cases k4 : e < 0
  · rw [may_no (by omega)]
    simp only [fi39, Tryd.f39, an39, k1, k2, k3, k4, T3, T22, T71, T163, EL, e_finWf, e_finWt, e_finMN, e_finMX, retM, meltV, tupV, D.asBox, D.row1, D.freeR, D.freeO, List.replicate_succ, stepD, accs, accP, accW, simpleOp, isAl, isExt, flipD, D.fresh1, D.row, D.plain, D.plain.plainL, St.close, St.close1, St.borrow, retV, resV, resL, outCL, outC, outL, outD, wantedV, opV, An.mid, thawV, St.settle, D.plainU, prune, envOf, get, put, eval, evalT, nz, argsV, capsV, ofV, binV, binV.aggV, unV, intV, eqOp, isConst, natV, optV, loadV, loadC, storeV, setC, St.at_, partV, partTy, indexAddrV, fieldAddrV, sliceV, sliceV.rowSl, sliceV.strSl, bounds, cutP, builtinV, lenV, maxL, maxV, appendV, St.elems, roomy, rowOf, rowS, isStr, esz, tdOf, convV, buildV, fillV, partsV, okParts, fillL, D.whole, D.demoteC, D.demote, demoteL, D.global, D.flat, D.leaf, D.cells, TI.agg, TD.rowish, callOpV, moveL, CC, keepB, St.borrowL, St.borrow, D.isLsl, adoptR, adoptC, adoptCL, adoptL, adopt, List.toArray, Array.toList, Nat.reduceEqDiff, Nat.reduceAdd, Nat.reduceSub, Nat.reduceMul, Nat.reduceLeDiff, Nat.reduceLT, reduceIte, reduceCtorEq, forall_const, imp_self, Int.reduceNeg, Int.reduceLT, Int.reduceLE, Int.reduceGT, Int.reduceGE, Int.reduceAdd, Int.reduceSub, Int.reduceMul, Int.reduceToNat, Int.reduceEq, ne_eq, eq_self]
    rfl
  by_cases k5 : e > 4096
  · rw [may_no (by omega)]
    simp only [fi39, Tryd.f39, an39, k1, k2, k3, k4, k5, T3, T22, T71, T163, EL, e_finWf, e_finWt, e_finMN, e_finMX, retM, meltV, tupV, D.asBox, D.row1, D.freeR, D.freeO, List.replicate_succ, stepD, accs, accP, accW, simpleOp, isAl, isExt, flipD, D.fresh1, D.row, D.plain, D.plain.plainL, St.close, St.close1, St.borrow, retV, resV, resL, outCL, outC, outL, outD, wantedV, opV, An.mid, thawV, St.settle, D.plainU, prune, envOf, get, put, eval, evalT, nz, argsV, capsV, ofV, binV, binV.aggV, unV, intV, eqOp, isConst, natV, optV, loadV, loadC, storeV, setC, St.at_, partV, partTy, indexAddrV, fieldAddrV, sliceV, sliceV.rowSl, sliceV.strSl, bounds, cutP, builtinV, lenV, maxL, maxV, appendV, St.elems, roomy, rowOf, rowS, isStr, esz, tdOf, convV, buildV, fillV, partsV, okParts, fillL, D.whole, D.demoteC, D.demote, demoteL, D.global, D.flat, D.leaf, D.cells, TI.agg, TD.rowish, callOpV, moveL, CC, keepB, St.borrowL, St.borrow, D.isLsl, adoptR, adoptC, adoptCL, adoptL, adopt, List.toArray, Array.toList, Nat.reduceEqDiff, Nat.reduceAdd, Nat.reduceSub, Nat.reduceMul, Nat.reduceLeDiff, Nat.reduceLT, reduceIte, reduceCtorEq, forall_const, imp_self, Int.reduceNeg, Int.reduceLT, Int.reduceLE, Int.reduceGT, Int.reduceGE, Int.reduceAdd, Int.reduceSub, Int.reduceMul, Int.reduceToNat, Int.reduceEq, ne_eq, eq_self]
    rfl
  by_cases k6 : e = 0
  · subst k6
    by_cases k7 : r = 0
    · subst k7
      rw [may_yes (by omega)]
      simp only [fi39, Tryd.f39, an39, k1, k2, k3, T3, T22, T71, T163, EL, e_finWf, e_finWt, e_finMN, e_finMX, retM, meltV, tupV, D.asBox, D.row1, D.freeR, D.freeO, List.replicate_succ, stepD, accs, accP, accW, simpleOp, isAl, isExt, flipD, D.fresh1, D.row, D.plain, D.plain.plainL, St.close, St.close1, St.borrow, retV, resV, resL, outCL, outC, outL, outD, wantedV, opV, An.mid, thawV, St.settle, D.plainU, prune, envOf, get, put, eval, evalT, nz, argsV, capsV, ofV, binV, binV.aggV, unV, intV, eqOp, isConst, natV, optV, loadV, loadC, storeV, setC, St.at_, partV, partTy, indexAddrV, fieldAddrV, sliceV, sliceV.rowSl, sliceV.strSl, bounds, cutP, builtinV, lenV, maxL, maxV, appendV, St.elems, roomy, rowOf, rowS, isStr, esz, tdOf, convV, buildV, fillV, partsV, okParts, fillL, D.whole, D.demoteC, D.demote, demoteL, D.global, D.flat, D.leaf, D.cells, TI.agg, TD.rowish, callOpV, moveL, CC, keepB, St.borrowL, St.borrow, D.isLsl, adoptR, adoptC, adoptCL, adoptL, adopt, List.toArray, Array.toList, Nat.reduceEqDiff, Nat.reduceAdd, Nat.reduceSub, Nat.reduceMul, Nat.reduceLeDiff, Nat.reduceLT, reduceIte, reduceCtorEq, forall_const, imp_self, Int.reduceNeg, Int.reduceLT, Int.reduceLE, Int.reduceGT, Int.reduceGE, Int.reduceAdd, Int.reduceSub, Int.reduceMul, Int.reduceToNat, Int.reduceEq, ne_eq, eq_self]
      rfl
    · rw [may_no (by omega)]
      simp only [fi39, Tryd.f39, an39, k1, k2, k3, k7, T3, T22, T71, T163, EL, e_finWf, e_finWt, e_finMN, e_finMX, retM, meltV, tupV, D.asBox, D.row1, D.freeR, D.freeO, List.replicate_succ, stepD, accs, accP, accW, simpleOp, isAl, isExt, flipD, D.fresh1, D.row, D.plain, D.plain.plainL, St.close, St.close1, St.borrow, retV, resV, resL, outCL, outC, outL, outD, wantedV, opV, An.mid, thawV, St.settle, D.plainU, prune, envOf, get, put, eval, evalT, nz, argsV, capsV, ofV, binV, binV.aggV, unV, intV, eqOp, isConst, natV, optV, loadV, loadC, storeV, setC, St.at_, partV, partTy, indexAddrV, fieldAddrV, sliceV, sliceV.rowSl, sliceV.strSl, bounds, cutP, builtinV, lenV, maxL, maxV, appendV, St.elems, roomy, rowOf, rowS, isStr, esz, tdOf, convV, buildV, fillV, partsV, okParts, fillL, D.whole, D.demoteC, D.demote, demoteL, D.global, D.flat, D.leaf, D.cells, TI.agg, TD.rowish, callOpV, moveL, CC, keepB, St.borrowL, St.borrow, D.isLsl, adoptR, adoptC, adoptCL, adoptL, adopt, List.toArray, Array.toList, Nat.reduceEqDiff, Nat.reduceAdd, Nat.reduceSub, Nat.reduceMul, Nat.reduceLeDiff, Nat.reduceLT, reduceIte, reduceCtorEq, forall_const, imp_self, Int.reduceNeg, Int.reduceLT, Int.reduceLE, Int.reduceGT, Int.reduceGE, Int.reduceAdd, Int.reduceSub, Int.reduceMul, Int.reduceToNat, Int.reduceEq, ne_eq, eq_self]
      rfl
  · have k0 : e > 0 := by omega
    by_cases k8 : r < 2
    · rw [may_no (by omega)]
      simp only [fi39, Tryd.f39, an39, k1, k2, k3, k4, k5, k6, k0, k8, T3, T22, T71, T163, EL, e_finWf, e_finWt, e_finMN, e_finMX, retM, meltV, tupV, D.asBox, D.row1, D.freeR, D.freeO, List.replicate_succ, stepD, accs, accP, accW, simpleOp, isAl, isExt, flipD, D.fresh1, D.row, D.plain, D.plain.plainL, St.close, St.close1, St.borrow, retV, resV, resL, outCL, outC, outL, outD, wantedV, opV, An.mid, thawV, St.settle, D.plainU, prune, envOf, get, put, eval, evalT, nz, argsV, capsV, ofV, binV, binV.aggV, unV, intV, eqOp, isConst, natV, optV, loadV, loadC, storeV, setC, St.at_, partV, partTy, indexAddrV, fieldAddrV, sliceV, sliceV.rowSl, sliceV.strSl, bounds, cutP, builtinV, lenV, maxL, maxV, appendV, St.elems, roomy, rowOf, rowS, isStr, esz, tdOf, convV, buildV, fillV, partsV, okParts, fillL, D.whole, D.demoteC, D.demote, demoteL, D.global, D.flat, D.leaf, D.cells, TI.agg, TD.rowish, callOpV, moveL, CC, keepB, St.borrowL, St.borrow, D.isLsl, adoptR, adoptC, adoptCL, adoptL, adopt, List.toArray, Array.toList, Nat.reduceEqDiff, Nat.reduceAdd, Nat.reduceSub, Nat.reduceMul, Nat.reduceLeDiff, Nat.reduceLT, reduceIte, reduceCtorEq, forall_const, imp_self, Int.reduceNeg, Int.reduceLT, Int.reduceLE, Int.reduceGT, Int.reduceGE, Int.reduceAdd, Int.reduceSub, Int.reduceMul, Int.reduceToNat, Int.reduceEq, ne_eq, eq_self]
      rfl
    by_cases k9 : r ≥ 1024
    · rw [may_no (by omega)]
      simp only [fi39, Tryd.f39, an39, k1, k2, k3, k4, k5, k6, k0, k8, k9, T3, T22, T71, T163, EL, e_finWf, e_finWt, e_finMN, e_finMX, retM, meltV, tupV, D.asBox, D.row1, D.freeR, D.freeO, List.replicate_succ, stepD, accs, accP, accW, simpleOp, isAl, isExt, flipD, D.fresh1, D.row, D.plain, D.plain.plainL, St.close, St.close1, St.borrow, retV, resV, resL, outCL, outC, outL, outD, wantedV, opV, An.mid, thawV, St.settle, D.plainU, prune, envOf, get, put, eval, evalT, nz, argsV, capsV, ofV, binV, binV.aggV, unV, intV, eqOp, isConst, natV, optV, loadV, loadC, storeV, setC, St.at_, partV, partTy, indexAddrV, fieldAddrV, sliceV, sliceV.rowSl, sliceV.strSl, bounds, cutP, builtinV, lenV, maxL, maxV, appendV, St.elems, roomy, rowOf, rowS, isStr, esz, tdOf, convV, buildV, fillV, partsV, okParts, fillL, D.whole, D.demoteC, D.demote, demoteL, D.global, D.flat, D.leaf, D.cells, TI.agg, TD.rowish, callOpV, moveL, CC, keepB, St.borrowL, St.borrow, D.isLsl, adoptR, adoptC, adoptCL, adoptL, adopt, List.toArray, Array.toList, Nat.reduceEqDiff, Nat.reduceAdd, Nat.reduceSub, Nat.reduceMul, Nat.reduceLeDiff, Nat.reduceLT, reduceIte, reduceCtorEq, forall_const, imp_self, Int.reduceNeg, Int.reduceLT, Int.reduceLE, Int.reduceGT, Int.reduceGE, Int.reduceAdd, Int.reduceSub, Int.reduceMul, Int.reduceToNat, Int.reduceEq, ne_eq, eq_self]
      rfl
    rw [may_yes (by omega)]
    simp only [fi39, Tryd.f39, an39, k1, k2, k3, k4, k5, k6, k0, k8, k9, T3, T22, T71, T163, EL, e_finWf, e_finWt, e_finMN, e_finMX, retM, meltV, tupV, D.asBox, D.row1, D.freeR, D.freeO, List.replicate_succ, stepD, accs, accP, accW, simpleOp, isAl, isExt, flipD, D.fresh1, D.row, D.plain, D.plain.plainL, St.close, St.close1, St.borrow, retV, resV, resL, outCL, outC, outL, outD, wantedV, opV, An.mid, thawV, St.settle, D.plainU, prune, envOf, get, put, eval, evalT, nz, argsV, capsV, ofV, binV, binV.aggV, unV, intV, eqOp, isConst, natV, optV, loadV, loadC, storeV, setC, St.at_, partV, partTy, indexAddrV, fieldAddrV, sliceV, sliceV.rowSl, sliceV.strSl, bounds, cutP, builtinV, lenV, maxL, maxV, appendV, St.elems, roomy, rowOf, rowS, isStr, esz, tdOf, convV, buildV, fillV, partsV, okParts, fillL, D.whole, D.demoteC, D.demote, demoteL, D.global, D.flat, D.leaf, D.cells, TI.agg, TD.rowish, callOpV, moveL, CC, keepB, St.borrowL, St.borrow, D.isLsl, adoptR, adoptC, adoptCL, adoptL, adopt, List.toArray, Array.toList, Nat.reduceEqDiff, Nat.reduceAdd, Nat.reduceSub, Nat.reduceMul, Nat.reduceLeDiff, Nat.reduceLT, reduceIte, reduceCtorEq, forall_const, imp_self, Int.reduceNeg, Int.reduceLT, Int.reduceLE, Int.reduceGT, Int.reduceGE, Int.reduceAdd, Int.reduceSub, Int.reduceMul, Int.reduceToNat, Int.reduceEq, ne_eq, eq_self]
    rfl
theorem c39 (hC : Lib19 C) (h : Hd) (B : Hp) : C 39 [h.D] B = some (errD (mayE h), B) := hC.f39 _ _ _ (run39 C h B)

set_option maxRecDepth 10000 in
theorem run40 (C : Callees) (h : Hd) (B : Hp) : runV T C fi40 [h.D] B = some (.bool h.may, B) := by
  obtain ⟨a, b, c, r, e⟩ := h
  rw [e_run _ _ _ rfl]
  unfold Hd.D
  by_cases k1 : (a : Int) > 4611686018427387904
  · rw [may_no (by omega)]
    simp only [fi40, Tryd.f40, an40, k1, T3, T22, T67, EL, e_finWf, e_finWt, e_finMN, e_finMX, retM, meltV, tupV, D.asBox, D.row1, D.freeR, D.freeO, List.replicate_succ, stepD, accs, accP, accW, simpleOp, isAl, isExt, flipD, D.fresh1, D.row, D.plain, D.plain.plainL, St.close, St.close1, St.borrow, retV, resV, resL, outCL, outC, outL, outD, wantedV, opV, An.mid, thawV, St.settle, D.plainU, prune, envOf, get, put, eval, evalT, nz, argsV, capsV, ofV, binV, binV.aggV, unV, intV, eqOp, isConst, natV, optV, loadV, loadC, storeV, setC, St.at_, partV, partTy, indexAddrV, fieldAddrV, sliceV, sliceV.rowSl, sliceV.strSl, bounds, cutP, builtinV, lenV, maxL, maxV, appendV, St.elems, roomy, rowOf, rowS, isStr, esz, tdOf, convV, buildV, fillV, partsV, okParts, fillL, D.whole, D.demoteC, D.demote, demoteL, D.global, D.flat, D.leaf, D.cells, TI.agg, TD.rowish, callOpV, moveL, CC, keepB, St.borrowL, St.borrow, D.isLsl, adoptR, adoptC, adoptCL, adoptL, adopt, List.toArray, Array.toList, Nat.reduceEqDiff, Nat.reduceAdd, Nat.reduceSub, Nat.reduceMul, Nat.reduceLeDiff, Nat.reduceLT, reduceIte, reduceCtorEq, forall_const, imp_self, Int.reduceNeg, Int.reduceLT, Int.reduceLE, Int.reduceGT, Int.reduceGE, Int.reduceAdd, Int.reduceSub, Int.reduceMul, Int.reduceToNat, Int.reduceEq, ne_eq, eq_self]
  by_cases k2 : (b : Int) > 4611686018427387904
  · rw [may_no (by omega)]
    simp only [fi40, Tryd.f40, an40, k1, k2, T3, T22, T67, EL, e_finWf, e_finWt, e_finMN, e_finMX, retM, meltV, tupV, D.asBox, D.row1, D.freeR, D.freeO, List.replicate_succ, stepD, accs, accP, accW, simpleOp, isAl, isExt, flipD, D.fresh1, D.row, D.plain, D.plain.plainL, St.close, St.close1, St.borrow, retV, resV, resL, outCL, outC, outL, outD, wantedV, opV, An.mid, thawV, St.settle, D.plainU, prune, envOf, get, put, eval, evalT, nz, argsV, capsV, ofV, binV, binV.aggV, unV, intV, eqOp, isConst, natV, optV, loadV, loadC, storeV, setC, St.at_, partV, partTy, indexAddrV, fieldAddrV, sliceV, sliceV.rowSl, sliceV.strSl, bounds, cutP, builtinV, lenV, maxL, maxV, appendV, St.elems, roomy, rowOf, rowS, isStr, esz, tdOf, convV, buildV, fillV, partsV, okParts, fillL, D.whole, D.demoteC, D.demote, demoteL, D.global, D.flat, D.leaf, D.cells, TI.agg, TD.rowish, callOpV, moveL, CC, keepB, St.borrowL, St.borrow, D.isLsl, adoptR, adoptC, adoptCL, adoptL, adopt, List.toArray, Array.toList, Nat.reduceEqDiff, Nat.reduceAdd, Nat.reduceSub, Nat.reduceMul, Nat.reduceLeDiff, Nat.reduceLT, reduceIte, reduceCtorEq, forall_const, imp_self, Int.reduceNeg, Int.reduceLT, Int.reduceLE, Int.reduceGT, Int.reduceGE, Int.reduceAdd, Int.reduceSub, Int.reduceMul, Int.reduceToNat, Int.reduceEq, ne_eq, eq_self]
  by_cases k3 : (c : Int) > 4611686018427387904
  · rw [may_no (by omega)]
    simp only [fi40, Tryd.f40, an40, k1, k2, k3, T3, T22, T67, EL, e_finWf, e_finWt, e_finMN, e_finMX, retM, meltV, tupV, D.asBox, D.row1, D.freeR, D.freeO, List.replicate_succ, stepD, accs, accP, accW, simpleOp, isAl, isExt, flipD, D.fresh1, D.row, D.plain, D.plain.plainL, St.close, St.close1, St.borrow, retV, resV, resL, outCL, outC, outL, outD, wantedV, opV, An.mid, thawV, St.settle, D.plainU, prune, envOf, get, put, eval, evalT, nz, argsV, capsV, ofV, binV, binV.aggV, unV, intV, eqOp, isConst, natV, optV, loadV, loadC, storeV, setC, St.at_, partV, partTy, indexAddrV, fieldAddrV, sliceV, sliceV.rowSl, sliceV.strSl, bounds, cutP, builtinV, lenV, maxL, maxV, appendV, St.elems, roomy, rowOf, rowS, isStr, esz, tdOf, convV, buildV, fillV, partsV, okParts, fillL, D.whole, D.demoteC, D.demote, demoteL, D.global, D.flat, D.leaf, D.cells, TI.agg, TD.rowish, callOpV, moveL, CC, keepB, St.borrowL, St.borrow, D.isLsl, adoptR, adoptC, adoptCL, adoptL, adopt, List.toArray, Array.toList, Nat.reduceEqDiff, Nat.reduceAdd, Nat.reduceSub, Nat.reduceMul, Nat.reduceLeDiff, Nat.reduceLT, reduceIte, reduceCtorEq, forall_const, imp_self, Int.reduceNeg, Int.reduceLT, Int.reduceLE, Int.reduceGT, Int.reduceGE, Int.reduceAdd, Int.reduceSub, Int.reduceMul, Int.reduceToNat, Int.reduceEq, ne_eq, eq_self]
  by_cases k4 : e < 0
  · rw [may_no (by omega)]
    simp only [fi40, Tryd.f40, an40, k1, k2, k3, k4, T3, T22, T67, EL, e_finWf, e_finWt, e_finMN, e_finMX, retM, meltV, tupV, D.asBox, D.row1, D.freeR, D.freeO, List.replicate_succ, stepD, accs, accP, accW, simpleOp, isAl, isExt, flipD, D.fresh1, D.row, D.plain, D.plain.plainL, St.close, St.close1, St.borrow, retV, resV, resL, outCL, outC, outL, outD, wantedV, opV, An.mid, thawV, St.settle, D.plainU, prune, envOf, get, put, eval, evalT, nz, argsV, capsV, ofV, binV, binV.aggV, unV, intV, eqOp, isConst, natV, optV, loadV, loadC, storeV, setC, St.at_, partV, partTy, indexAddrV, fieldAddrV, sliceV, sliceV.rowSl, sliceV.strSl, bounds, cutP, builtinV, lenV, maxL, maxV, appendV, St.elems, roomy, rowOf, rowS, isStr, esz, tdOf, convV, buildV, fillV, partsV, okParts, fillL, D.whole, D.demoteC, D.demote, demoteL, D.global, D.flat, D.leaf, D.cells, TI.agg, TD.rowish, callOpV, moveL, CC, keepB, St.borrowL, St.borrow, D.isLsl, adoptR, adoptC, adoptCL, adoptL, adopt, List.toArray, Array.toList, Nat.reduceEqDiff, Nat.reduceAdd, Nat.reduceSub, Nat.reduceMul, Nat.reduceLeDiff, Nat.reduceLT, reduceIte, reduceCtorEq, forall_const, imp_self, Int.reduceNeg, Int.reduceLT, Int.reduceLE, Int.reduceGT, Int.reduceGE, Int.reduceAdd, Int.reduceSub, Int.reduceMul, Int.reduceToNat, Int.reduceEq, ne_eq, eq_self]
  by_cases k5 : e > 4096
  · rw [may_no (by omega)]
    simp only [fi40, Tryd.f40, an40, k1, k2, k3, k4, k5, T3, T22, T67, EL, e_finWf, e_finWt, e_finMN, e_finMX, retM, meltV, tupV, D.asBox, D.row1, D.freeR, D.freeO, List.replicate_succ, stepD, accs, accP, accW, simpleOp, isAl, isExt, flipD, D.fresh1, D.row, D.plain, D.plain.plainL, St.close, St.close1, St.borrow, retV, resV, resL, outCL, outC, outL, outD, wantedV, opV, An.mid, thawV, St.settle, D.plainU, prune, envOf, get, put, eval, evalT, nz, argsV, capsV, ofV, binV, binV.aggV, unV, intV, eqOp, isConst, natV, optV, loadV, loadC, storeV, setC, St.at_, partV, partTy, indexAddrV, fieldAddrV, sliceV, sliceV.rowSl, sliceV.strSl, bounds, cutP, builtinV, lenV, maxL, maxV, appendV, St.elems, roomy, rowOf, rowS, isStr, esz, tdOf, convV, buildV, fillV, partsV, okParts, fillL, D.whole, D.demoteC, D.demote, demoteL, D.global, D.flat, D.leaf, D.cells, TI.agg, TD.rowish, callOpV, moveL, CC, keepB, St.borrowL, St.borrow, D.isLsl, adoptR, adoptC, adoptCL, adoptL, adopt, List.toArray, Array.toList, Nat.reduceEqDiff, Nat.reduceAdd, Nat.reduceSub, Nat.reduceMul, Nat.reduceLeDiff, Nat.reduceLT, reduceIte, reduceCtorEq, forall_const, imp_self, Int.reduceNeg, Int.reduceLT, Int.reduceLE, Int.reduceGT, Int.reduceGE, Int.reduceAdd, Int.reduceSub, Int.reduceMul, Int.reduceToNat, Int.reduceEq, ne_eq, eq_self]
  by_cases k6 : e = 0
  · subst k6
    by_cases k7 : r = 0
    · subst k7
      rw [may_yes (by omega)]
      simp only [fi40, Tryd.f40, an40, k1, k2, k3, T3, T22, T67, EL, e_finWf, e_finWt, e_finMN, e_finMX, retM, meltV, tupV, D.asBox, D.row1, D.freeR, D.freeO, List.replicate_succ, stepD, accs, accP, accW, simpleOp, isAl, isExt, flipD, D.fresh1, D.row, D.plain, D.plain.plainL, St.close, St.close1, St.borrow, retV, resV, resL, outCL, outC, outL, outD, wantedV, opV, An.mid, thawV, St.settle, D.plainU, prune, envOf, get, put, eval, evalT, nz, argsV, capsV, ofV, binV, binV.aggV, unV, intV, eqOp, isConst, natV, optV, loadV, loadC, storeV, setC, St.at_, partV, partTy, indexAddrV, fieldAddrV, sliceV, sliceV.rowSl, sliceV.strSl, bounds, cutP, builtinV, lenV, maxL, maxV, appendV, St.elems, roomy, rowOf, rowS, isStr, esz, tdOf, convV, buildV, fillV, partsV, okParts, fillL, D.whole, D.demoteC, D.demote, demoteL, D.global, D.flat, D.leaf, D.cells, TI.agg, TD.rowish, callOpV, moveL, CC, keepB, St.borrowL, St.borrow, D.isLsl, adoptR, adoptC, adoptCL, adoptL, adopt, List.toArray, Array.toList, Nat.reduceEqDiff, Nat.reduceAdd, Nat.reduceSub, Nat.reduceMul, Nat.reduceLeDiff, Nat.reduceLT, reduceIte, reduceCtorEq, forall_const, imp_self, Int.reduceNeg, Int.reduceLT, Int.reduceLE, Int.reduceGT, Int.reduceGE, Int.reduceAdd, Int.reduceSub, Int.reduceMul, Int.reduceToNat, Int.reduceEq, ne_eq, eq_self]
    · rw [may_no (by omega)]
      simp only [fi40, Tryd.f40, an40, k1, k2, k3, k7, T3, T22, T67, EL, e_finWf, e_finWt, e_finMN, e_finMX, retM, meltV, tupV, D.asBox, D.row1, D.freeR, D.freeO, List.replicate_succ, stepD, accs, accP, accW, simpleOp, isAl, isExt, flipD, D.fresh1, D.row, D.plain, D.plain.plainL, St.close, St.close1, St.borrow, retV, resV, resL, outCL, outC, outL, outD, wantedV, opV, An.mid, thawV, St.settle, D.plainU, prune, envOf, get, put, eval, evalT, nz, argsV, capsV, ofV, binV, binV.aggV, unV, intV, eqOp, isConst, natV, optV, loadV, loadC, storeV, setC, St.at_, partV, partTy, indexAddrV, fieldAddrV, sliceV, sliceV.rowSl, sliceV.strSl, bounds, cutP, builtinV, lenV, maxL, maxV, appendV, St.elems, roomy, rowOf, rowS, isStr, esz, tdOf, convV, buildV, fillV, partsV, okParts, fillL, D.whole, D.demoteC, D.demote, demoteL, D.global, D.flat, D.leaf, D.cells, TI.agg, TD.rowish, callOpV, moveL, CC, keepB, St.borrowL, St.borrow, D.isLsl, adoptR, adoptC, adoptCL, adoptL, adopt, List.toArray, Array.toList, Nat.reduceEqDiff, Nat.reduceAdd, Nat.reduceSub, Nat.reduceMul, Nat.reduceLeDiff, Nat.reduceLT, reduceIte, reduceCtorEq, forall_const, imp_self, Int.reduceNeg, Int.reduceLT, Int.reduceLE, Int.reduceGT, Int.reduceGE, Int.reduceAdd, Int.reduceSub, Int.reduceMul, Int.reduceToNat, Int.reduceEq, ne_eq, eq_self]
  · by_cases k8 : r ≥ 2
    · by_cases k9 : r ≤ 1023
      · rw [may_yes (by omega)]
        simp only [fi40, Tryd.f40, an40, k1, k2, k3, k4, k5, k6, k8, k9, T3, T22, T67, EL, e_finWf, e_finWt, e_finMN, e_finMX, retM, meltV, tupV, D.asBox, D.row1, D.freeR, D.freeO, List.replicate_succ, stepD, accs, accP, accW, simpleOp, isAl, isExt, flipD, D.fresh1, D.row, D.plain, D.plain.plainL, St.close, St.close1, St.borrow, retV, resV, resL, outCL, outC, outL, outD, wantedV, opV, An.mid, thawV, St.settle, D.plainU, prune, envOf, get, put, eval, evalT, nz, argsV, capsV, ofV, binV, binV.aggV, unV, intV, eqOp, isConst, natV, optV, loadV, loadC, storeV, setC, St.at_, partV, partTy, indexAddrV, fieldAddrV, sliceV, sliceV.rowSl, sliceV.strSl, bounds, cutP, builtinV, lenV, maxL, maxV, appendV, St.elems, roomy, rowOf, rowS, isStr, esz, tdOf, convV, buildV, fillV, partsV, okParts, fillL, D.whole, D.demoteC, D.demote, demoteL, D.global, D.flat, D.leaf, D.cells, TI.agg, TD.rowish, callOpV, moveL, CC, keepB, St.borrowL, St.borrow, D.isLsl, adoptR, adoptC, adoptCL, adoptL, adopt, List.toArray, Array.toList, Nat.reduceEqDiff, Nat.reduceAdd, Nat.reduceSub, Nat.reduceMul, Nat.reduceLeDiff, Nat.reduceLT, reduceIte, reduceCtorEq, forall_const, imp_self, Int.reduceNeg, Int.reduceLT, Int.reduceLE, Int.reduceGT, Int.reduceGE, Int.reduceAdd, Int.reduceSub, Int.reduceMul, Int.reduceToNat, Int.reduceEq, ne_eq, eq_self]
      · rw [may_no (by omega)]
        simp only [fi40, Tryd.f40, an40, k1, k2, k3, k4, k5, k6, k8, k9, T3, T22, T67, EL, e_finWf, e_finWt, e_finMN, e_finMX, retM, meltV, tupV, D.asBox, D.row1, D.freeR, D.freeO, List.replicate_succ, stepD, accs, accP, accW, simpleOp, isAl, isExt, flipD, D.fresh1, D.row, D.plain, D.plain.plainL, St.close, St.close1, St.borrow, retV, resV, resL, outCL, outC, outL, outD, wantedV, opV, An.mid, thawV, St.settle, D.plainU, prune, envOf, get, put, eval, evalT, nz, argsV, capsV, ofV, binV, binV.aggV, unV, intV, eqOp, isConst, natV, optV, loadV, loadC, storeV, setC, St.at_, partV, partTy, indexAddrV, fieldAddrV, sliceV, sliceV.rowSl, sliceV.strSl, bounds, cutP, builtinV, lenV, maxL, maxV, appendV, St.elems, roomy, rowOf, rowS, isStr, esz, tdOf, convV, buildV, fillV, partsV, okParts, fillL, D.whole, D.demoteC, D.demote, demoteL, D.global, D.flat, D.leaf, D.cells, TI.agg, TD.rowish, callOpV, moveL, CC, keepB, St.borrowL, St.borrow, D.isLsl, adoptR, adoptC, adoptCL, adoptL, adopt, List.toArray, Array.toList, Nat.reduceEqDiff, Nat.reduceAdd, Nat.reduceSub, Nat.reduceMul, Nat.reduceLeDiff, Nat.reduceLT, reduceIte, reduceCtorEq, forall_const, imp_self, Int.reduceNeg, Int.reduceLT, Int.reduceLE, Int.reduceGT, Int.reduceGE, Int.reduceAdd, Int.reduceSub, Int.reduceMul, Int.reduceToNat, Int.reduceEq, ne_eq, eq_self]
    · rw [may_no (by omega)]
      simp only [fi40, Tryd.f40, an40, k1, k2, k3, k4, k5, k6, k8, T3, T22, T67, EL, e_finWf, e_finWt, e_finMN, e_finMX, retM, meltV, tupV, D.asBox, D.row1, D.freeR, D.freeO, List.replicate_succ, stepD, accs, accP, accW, simpleOp, isAl, isExt, flipD, D.fresh1, D.row, D.plain, D.plain.plainL, St.close, St.close1, St.borrow, retV, resV, resL, outCL, outC, outL, outD, wantedV, opV, An.mid, thawV, St.settle, D.plainU, prune, envOf, get, put, eval, evalT, nz, argsV, capsV, ofV, binV, binV.aggV, unV, intV, eqOp, isConst, natV, optV, loadV, loadC, storeV, setC, St.at_, partV, partTy, indexAddrV, fieldAddrV, sliceV, sliceV.rowSl, sliceV.strSl, bounds, cutP, builtinV, lenV, maxL, maxV, appendV, St.elems, roomy, rowOf, rowS, isStr, esz, tdOf, convV, buildV, fillV, partsV, okParts, fillL, D.whole, D.demoteC, D.demote, demoteL, D.global, D.flat, D.leaf, D.cells, TI.agg, TD.rowish, callOpV, moveL, CC, keepB, St.borrowL, St.borrow, D.isLsl, adoptR, adoptC, adoptCL, adoptL, adopt, List.toArray, Array.toList, Nat.reduceEqDiff, Nat.reduceAdd, Nat.reduceSub, Nat.reduceMul, Nat.reduceLeDiff, Nat.reduceLT, reduceIte, reduceCtorEq, forall_const, imp_self, Int.reduceNeg, Int.reduceLT, Int.reduceLE, Int.reduceGT, Int.reduceGE, Int.reduceAdd, Int.reduceSub, Int.reduceMul, Int.reduceToNat, Int.reduceEq, ne_eq, eq_self]
theorem c40 (hC : Lib19 C) (h : Hd) (B : Hp) : C 40 [h.D] B = some (.bool h.may, B) := hC.f40 _ _ _ (run40 C h B)

set_option maxRecDepth 10000 in
theorem run41 (C : Callees) (n : Nat) (hn : n < 18446744073709551616) (B : Hp) : runV T C fi41 [.int .u64 (n : Nat)] B = some (.int .i64 (n % 2 : Nat), B) := by
  rw [e_run _ _ _ rfl]
  have b1 : bitsV .and .u64 (n : Int) 1 = ((n % 2 : Nat) : Int) := by
    have := bits_nat (k := .u64) rfl .and n 1 (by show n < 2 ^ 64; omega) (by show 1 < 2 ^ 64; omega)
    simp only [Nat.and_one_is_mod] at this
    exact this
  have w1 : IntKind.i64.wrap ((n % 2 : Nat) : Int) = ((n % 2 : Nat) : Int) := wrapI (by omega) (by omega)
  simp only [fi41, Tryd.f41, an41, b1, w1, T3, T22, EL, e_finWf, e_finWt, e_finMN, e_finMX, retM, meltV, tupV, D.asBox, D.row1, D.freeR, D.freeO, List.replicate_succ, stepD, accs, accP, accW, simpleOp, isAl, isExt, flipD, D.fresh1, D.row, D.plain, D.plain.plainL, St.close, St.close1, St.borrow, retV, resV, resL, outCL, outC, outL, outD, wantedV, opV, An.mid, thawV, St.settle, D.plainU, prune, envOf, get, put, eval, evalT, nz, argsV, capsV, ofV, binV, binV.aggV, unV, intV, eqOp, isConst, natV, optV, loadV, loadC, storeV, setC, St.at_, partV, partTy, indexAddrV, fieldAddrV, sliceV, sliceV.rowSl, sliceV.strSl, bounds, cutP, builtinV, lenV, maxL, maxV, appendV, St.elems, roomy, rowOf, rowS, isStr, esz, tdOf, convV, buildV, fillV, partsV, okParts, fillL, D.whole, D.demoteC, D.demote, demoteL, D.global, D.flat, D.leaf, D.cells, TI.agg, TD.rowish, callOpV, moveL, CC, keepB, St.borrowL, St.borrow, D.isLsl, adoptR, adoptC, adoptCL, adoptL, adopt, List.toArray, Array.toList, Nat.reduceEqDiff, Nat.reduceAdd, Nat.reduceSub, Nat.reduceMul, Nat.reduceLeDiff, Nat.reduceLT, reduceIte, reduceCtorEq, forall_const, imp_self, Int.reduceNeg, Int.reduceLT, Int.reduceLE, Int.reduceGT, Int.reduceGE, Int.reduceAdd, Int.reduceSub, Int.reduceMul, Int.reduceToNat, Int.reduceEq, ne_eq, eq_self]
theorem c41 (hC : Lib19 C) (n : Nat) (hn : n < 18446744073709551616) (B : Hp) : C 41 [.int .u64 (n : Nat)] B = some (.int .i64 (n % 2 : Nat), B) := hC.f41 _ _ _ (run41 C n hn B)

/-! ### Encode -/
def vsH (h : Hd) : List Nat := [h.a, h.b, h.c, h.r.toNat, h.e.toNat]
def preH (h : Hd) (k : Nat) : List UInt8 := ((vsH h).take k).flatMap vputS
theorem preH_5 (h : Hd) : preH h 5 = headL h := by simp [preH, vsH, headL]
def st32 (h : Hd) (k : Nat) : St := ⟨[(5, .vec 1 ((preH h k).map byteD) (bif Nat.beq k 0 then .exact else .own 0)), (25, .agg [.int .u64 h.a, .int .u64 h.b, .int .u64 h.c, .int .u64 h.r.toNat, .int .u64 h.e.toNat]), (26, .int .i64 (k : Nat))], [], bif Nat.beq k 0 then [] else [true], []⟩

theorem preH_len {h : Hd} (hm : h.may = true) (k : Nat) : (preH h k).length ≤ 50 := by
  have := headL_len hm
  rw [← preH_5] at this
  refine Nat.le_trans ?_ this
  unfold preH
  have e : (vsH h).take 5 = vsH h := rfl
  rw [e]
  conv => rhs; rw [← List.take_append_drop k (vsH h)]
  rw [List.flatMap_append, List.length_append]; omega

set_option maxRecDepth 10000 in
theorem loop32 (hC : Lib19 C) (h : Hd) (hm : h.may = true) (st : St) (hst : an32.at_ (some 6) st = st32 h 0) :
    ∃ x st', loopC T an32 C lp32_0 st = some (x, st') ∧ x = .exit 0 ∧ ∃ ρ, st' = ⟨ρ, [], [true], []⟩ ∧ get ρ 5 = .vec 1 ((headL h).map byteD) (.own 0) := by
  refine loop_rule (st32 h) (fun k => k ≤ 5) (fun k => 5 - k) _ ?_ 0 st hst (Nat.zero_le _)
  intro k hk
  obtain ⟨h1, h2, h3, h4, h5, h6, h7⟩ := may_parts hm
  unfold big at h1 h2 h3
  have hlen := preH_len hm k
  have c1 := fun v hv B => c87 hC.toLibPack (preH h k) v hv (by omega) B
  match k, hk with
  | 0, _ =>
    left
    refine ⟨1, ?_, by decide, by decide⟩
    have e1 : preH h 0 ++ vputS h.a = preH h 1 := by simp [preH, vsH]
    have c2 := c1 h.a (by omega)
    rw [e1] at c2
    simp only [st32, lp32_0, subC, atC, Tryd.f32, an32, nlit, c2, T3, T5, T22, T33, T68, T71, T175, EL, e_finWf, e_finWt, e_finMN, e_finMX, retM, meltV, tupV, D.asBox, D.row1, D.freeR, D.freeO, List.replicate_succ, stepD, accs, accP, accW, simpleOp, isAl, isExt, flipD, D.fresh1, D.row, D.plain, D.plain.plainL, St.close, St.close1, St.borrow, retV, resV, resL, outCL, outC, outL, outD, wantedV, opV, An.mid, thawV, St.settle, D.plainU, prune, envOf, get, put, eval, evalT, nz, argsV, capsV, ofV, binV, binV.aggV, unV, intV, eqOp, isConst, natV, optV, loadV, loadC, storeV, setC, St.at_, partV, partTy, indexAddrV, fieldAddrV, sliceV, sliceV.rowSl, sliceV.strSl, bounds, cutP, builtinV, lenV, maxL, maxV, appendV, St.elems, roomy, rowOf, rowS, isStr, esz, tdOf, convV, buildV, fillV, partsV, okParts, fillL, D.whole, D.demoteC, D.demote, demoteL, D.global, D.flat, D.leaf, D.cells, TI.agg, TD.rowish, callOpV, moveL, CC, keepB, St.borrowL, St.borrow, D.isLsl, adoptR, adoptC, adoptCL, adoptL, adopt, List.toArray, Array.toList, Nat.reduceEqDiff, Nat.reduceAdd, Nat.reduceSub, Nat.reduceMul, Nat.reduceLeDiff, Nat.reduceLT, reduceIte, reduceCtorEq, forall_const, imp_self, Int.reduceNeg, Int.reduceLT, Int.reduceLE, Int.reduceGT, Int.reduceGE, Int.reduceAdd, Int.reduceSub, Int.reduceMul, Int.reduceToNat, Int.reduceEq, ne_eq, eq_self]
    exact ⟨_, rfl, rfl⟩
  | 1, _ =>
    left
    refine ⟨2, ?_, by decide, by decide⟩
    have e1 : preH h 1 ++ vputS h.b = preH h 2 := by simp [preH, vsH]
    have c2 := c1 h.b (by omega)
    rw [e1] at c2
    simp only [st32, lp32_0, subC, atC, Tryd.f32, an32, nlit, c2, T3, T5, T22, T33, T68, T71, T175, EL, e_finWf, e_finWt, e_finMN, e_finMX, retM, meltV, tupV, D.asBox, D.row1, D.freeR, D.freeO, List.replicate_succ, stepD, accs, accP, accW, simpleOp, isAl, isExt, flipD, D.fresh1, D.row, D.plain, D.plain.plainL, St.close, St.close1, St.borrow, retV, resV, resL, outCL, outC, outL, outD, wantedV, opV, An.mid, thawV, St.settle, D.plainU, prune, envOf, get, put, eval, evalT, nz, argsV, capsV, ofV, binV, binV.aggV, unV, intV, eqOp, isConst, natV, optV, loadV, loadC, storeV, setC, St.at_, partV, partTy, indexAddrV, fieldAddrV, sliceV, sliceV.rowSl, sliceV.strSl, bounds, cutP, builtinV, lenV, maxL, maxV, appendV, St.elems, roomy, rowOf, rowS, isStr, esz, tdOf, convV, buildV, fillV, partsV, okParts, fillL, D.whole, D.demoteC, D.demote, demoteL, D.global, D.flat, D.leaf, D.cells, TI.agg, TD.rowish, callOpV, moveL, CC, keepB, St.borrowL, St.borrow, D.isLsl, adoptR, adoptC, adoptCL, adoptL, adopt, List.toArray, Array.toList, Nat.reduceEqDiff, Nat.reduceAdd, Nat.reduceSub, Nat.reduceMul, Nat.reduceLeDiff, Nat.reduceLT, reduceIte, reduceCtorEq, forall_const, imp_self, Int.reduceNeg, Int.reduceLT, Int.reduceLE, Int.reduceGT, Int.reduceGE, Int.reduceAdd, Int.reduceSub, Int.reduceMul, Int.reduceToNat, Int.reduceEq, ne_eq, eq_self]
    exact ⟨_, rfl, rfl⟩
  | 2, _ =>
    left
    refine ⟨3, ?_, by decide, by decide⟩
    have e1 : preH h 2 ++ vputS h.c = preH h 3 := by simp [preH, vsH]
    have c2 := c1 h.c (by omega)
    rw [e1] at c2
    simp only [st32, lp32_0, subC, atC, Tryd.f32, an32, nlit, c2, T3, T5, T22, T33, T68, T71, T175, EL, e_finWf, e_finWt, e_finMN, e_finMX, retM, meltV, tupV, D.asBox, D.row1, D.freeR, D.freeO, List.replicate_succ, stepD, accs, accP, accW, simpleOp, isAl, isExt, flipD, D.fresh1, D.row, D.plain, D.plain.plainL, St.close, St.close1, St.borrow, retV, resV, resL, outCL, outC, outL, outD, wantedV, opV, An.mid, thawV, St.settle, D.plainU, prune, envOf, get, put, eval, evalT, nz, argsV, capsV, ofV, binV, binV.aggV, unV, intV, eqOp, isConst, natV, optV, loadV, loadC, storeV, setC, St.at_, partV, partTy, indexAddrV, fieldAddrV, sliceV, sliceV.rowSl, sliceV.strSl, bounds, cutP, builtinV, lenV, maxL, maxV, appendV, St.elems, roomy, rowOf, rowS, isStr, esz, tdOf, convV, buildV, fillV, partsV, okParts, fillL, D.whole, D.demoteC, D.demote, demoteL, D.global, D.flat, D.leaf, D.cells, TI.agg, TD.rowish, callOpV, moveL, CC, keepB, St.borrowL, St.borrow, D.isLsl, adoptR, adoptC, adoptCL, adoptL, adopt, List.toArray, Array.toList, Nat.reduceEqDiff, Nat.reduceAdd, Nat.reduceSub, Nat.reduceMul, Nat.reduceLeDiff, Nat.reduceLT, reduceIte, reduceCtorEq, forall_const, imp_self, Int.reduceNeg, Int.reduceLT, Int.reduceLE, Int.reduceGT, Int.reduceGE, Int.reduceAdd, Int.reduceSub, Int.reduceMul, Int.reduceToNat, Int.reduceEq, ne_eq, eq_self]
    exact ⟨_, rfl, rfl⟩
  | 3, _ =>
    left
    refine ⟨4, ?_, by decide, by decide⟩
    have e1 : preH h 3 ++ vputS h.r.toNat = preH h 4 := by simp [preH, vsH]
    have c2 := c1 h.r.toNat (by omega)
    rw [e1] at c2
    simp only [st32, lp32_0, subC, atC, Tryd.f32, an32, nlit, c2, T3, T5, T22, T33, T68, T71, T175, EL, e_finWf, e_finWt, e_finMN, e_finMX, retM, meltV, tupV, D.asBox, D.row1, D.freeR, D.freeO, List.replicate_succ, stepD, accs, accP, accW, simpleOp, isAl, isExt, flipD, D.fresh1, D.row, D.plain, D.plain.plainL, St.close, St.close1, St.borrow, retV, resV, resL, outCL, outC, outL, outD, wantedV, opV, An.mid, thawV, St.settle, D.plainU, prune, envOf, get, put, eval, evalT, nz, argsV, capsV, ofV, binV, binV.aggV, unV, intV, eqOp, isConst, natV, optV, loadV, loadC, storeV, setC, St.at_, partV, partTy, indexAddrV, fieldAddrV, sliceV, sliceV.rowSl, sliceV.strSl, bounds, cutP, builtinV, lenV, maxL, maxV, appendV, St.elems, roomy, rowOf, rowS, isStr, esz, tdOf, convV, buildV, fillV, partsV, okParts, fillL, D.whole, D.demoteC, D.demote, demoteL, D.global, D.flat, D.leaf, D.cells, TI.agg, TD.rowish, callOpV, moveL, CC, keepB, St.borrowL, St.borrow, D.isLsl, adoptR, adoptC, adoptCL, adoptL, adopt, List.toArray, Array.toList, Nat.reduceEqDiff, Nat.reduceAdd, Nat.reduceSub, Nat.reduceMul, Nat.reduceLeDiff, Nat.reduceLT, reduceIte, reduceCtorEq, forall_const, imp_self, Int.reduceNeg, Int.reduceLT, Int.reduceLE, Int.reduceGT, Int.reduceGE, Int.reduceAdd, Int.reduceSub, Int.reduceMul, Int.reduceToNat, Int.reduceEq, ne_eq, eq_self]
    exact ⟨_, rfl, rfl⟩
  | 4, _ =>
    left
    refine ⟨5, ?_, by decide, by decide⟩
    have e1 : preH h 4 ++ vputS h.e.toNat = preH h 5 := by simp [preH, vsH]
    have c2 := c1 h.e.toNat (by omega)
    rw [e1] at c2
    simp only [st32, lp32_0, subC, atC, Tryd.f32, an32, nlit, c2, T3, T5, T22, T33, T68, T71, T175, EL, e_finWf, e_finWt, e_finMN, e_finMX, retM, meltV, tupV, D.asBox, D.row1, D.freeR, D.freeO, List.replicate_succ, stepD, accs, accP, accW, simpleOp, isAl, isExt, flipD, D.fresh1, D.row, D.plain, D.plain.plainL, St.close, St.close1, St.borrow, retV, resV, resL, outCL, outC, outL, outD, wantedV, opV, An.mid, thawV, St.settle, D.plainU, prune, envOf, get, put, eval, evalT, nz, argsV, capsV, ofV, binV, binV.aggV, unV, intV, eqOp, isConst, natV, optV, loadV, loadC, storeV, setC, St.at_, partV, partTy, indexAddrV, fieldAddrV, sliceV, sliceV.rowSl, sliceV.strSl, bounds, cutP, builtinV, lenV, maxL, maxV, appendV, St.elems, roomy, rowOf, rowS, isStr, esz, tdOf, convV, buildV, fillV, partsV, okParts, fillL, D.whole, D.demoteC, D.demote, demoteL, D.global, D.flat, D.leaf, D.cells, TI.agg, TD.rowish, callOpV, moveL, CC, keepB, St.borrowL, St.borrow, D.isLsl, adoptR, adoptC, adoptCL, adoptL, adopt, List.toArray, Array.toList, Nat.reduceEqDiff, Nat.reduceAdd, Nat.reduceSub, Nat.reduceMul, Nat.reduceLeDiff, Nat.reduceLT, reduceIte, reduceCtorEq, forall_const, imp_self, Int.reduceNeg, Int.reduceLT, Int.reduceLE, Int.reduceGT, Int.reduceGE, Int.reduceAdd, Int.reduceSub, Int.reduceMul, Int.reduceToNat, Int.reduceEq, ne_eq, eq_self]
    exact ⟨_, rfl, rfl⟩
  | 5, _ =>
    right
    rw [← preH_5]
    simp only [st32, lp32_0, subC, atC, Tryd.f32, an32, nlit, T3, T5, T22, T33, T68, T71, T175, EL, e_finWf, e_finWt, e_finMN, e_finMX, retM, meltV, tupV, D.asBox, D.row1, D.freeR, D.freeO, List.replicate_succ, stepD, accs, accP, accW, simpleOp, isAl, isExt, flipD, D.fresh1, D.row, D.plain, D.plain.plainL, St.close, St.close1, St.borrow, retV, resV, resL, outCL, outC, outL, outD, wantedV, opV, An.mid, thawV, St.settle, D.plainU, prune, envOf, get, put, eval, evalT, nz, argsV, capsV, ofV, binV, binV.aggV, unV, intV, eqOp, isConst, natV, optV, loadV, loadC, storeV, setC, St.at_, partV, partTy, indexAddrV, fieldAddrV, sliceV, sliceV.rowSl, sliceV.strSl, bounds, cutP, builtinV, lenV, maxL, maxV, appendV, St.elems, roomy, rowOf, rowS, isStr, esz, tdOf, convV, buildV, fillV, partsV, okParts, fillL, D.whole, D.demoteC, D.demote, demoteL, D.global, D.flat, D.leaf, D.cells, TI.agg, TD.rowish, callOpV, moveL, CC, keepB, St.borrowL, St.borrow, D.isLsl, adoptR, adoptC, adoptCL, adoptL, adopt, List.toArray, Array.toList, Nat.reduceEqDiff, Nat.reduceAdd, Nat.reduceSub, Nat.reduceMul, Nat.reduceLeDiff, Nat.reduceLT, reduceIte, reduceCtorEq, forall_const, imp_self, Int.reduceNeg, Int.reduceLT, Int.reduceLE, Int.reduceGT, Int.reduceGE, Int.reduceAdd, Int.reduceSub, Int.reduceMul, Int.reduceToNat, Int.reduceEq, ne_eq, eq_self]
    exact ⟨_, _, rfl, by simp, rfl, _, rfl, rfl⟩

set_option maxRecDepth 10000 in
theorem run32_bad (hC : Lib19 C) (h : Hd) (hm : h.may = false) (B : Hp) : runV T C fi32 [h.D] B = some (.tuple [.vec 1 [] .fresh, errD 1], B) := by
  rw [e_run _ _ _ rfl]
  have c1 := c39 hC h
  unfold mayE at c1
  rw [hm, if_neg (by decide), errD_pos (by decide)] at c1
  unfold Hd.D at c1 ⊢
  simp only [fi32, Tryd.f32, an32, c1, T3, T5, T22, T33, T68, T71, T175, EL, e_finWf, e_finWt, e_finMN, e_finMX, retM, meltV, tupV, D.asBox, D.row1, D.freeR, D.freeO, List.replicate_succ, stepD, accs, accP, accW, simpleOp, isAl, isExt, flipD, D.fresh1, D.row, D.plain, D.plain.plainL, St.close, St.close1, St.borrow, retV, resV, resL, outCL, outC, outL, outD, wantedV, opV, An.mid, thawV, St.settle, D.plainU, prune, envOf, get, put, eval, evalT, nz, argsV, capsV, ofV, binV, binV.aggV, unV, intV, eqOp, isConst, natV, optV, loadV, loadC, storeV, setC, St.at_, partV, partTy, indexAddrV, fieldAddrV, sliceV, sliceV.rowSl, sliceV.strSl, bounds, cutP, builtinV, lenV, maxL, maxV, appendV, St.elems, roomy, rowOf, rowS, isStr, esz, tdOf, convV, buildV, fillV, partsV, okParts, fillL, D.whole, D.demoteC, D.demote, demoteL, D.global, D.flat, D.leaf, D.cells, TI.agg, TD.rowish, callOpV, moveL, CC, keepB, St.borrowL, St.borrow, D.isLsl, adoptR, adoptC, adoptCL, adoptL, adopt, List.toArray, Array.toList, Nat.reduceEqDiff, Nat.reduceAdd, Nat.reduceSub, Nat.reduceMul, Nat.reduceLeDiff, Nat.reduceLT, reduceIte, reduceCtorEq, forall_const, imp_self, Int.reduceNeg, Int.reduceLT, Int.reduceLE, Int.reduceGT, Int.reduceGE, Int.reduceAdd, Int.reduceSub, Int.reduceMul, Int.reduceToNat, Int.reduceEq, ne_eq, eq_self]
  rfl

set_option maxRecDepth 20000 in
set_option maxHeartbeats 2000000 in
theorem run32_ok (hC : Lib19 C) (h : Hd) (hm : h.may = true) : runV T C fi32 [h.D] [] = some (.tuple [.vec 1 ((encH h).map byteD) .box, .nili], []) := by
  rw [e_run _ _ _ rfl]
  have c1 := c39 hC h
  unfold mayE at c1
  rw [hm, if_pos rfl, errD_zero] at c1
  obtain ⟨h1, h2, h3, h4, h5, h6, h7⟩ := may_parts hm
  have w1 : IntKind.u64.wrap h.r = (h.r.toNat : Nat) := by rw [wrap_u64 (by omega) (by omega)]; omega
  have w2 : IntKind.u64.wrap h.e = (h.e.toNat : Nat) := by rw [wrap_u64 (by omega) (by omega)]; omega
  have hl := headL_len hm
  have c2 : C 88 [.int .u8 4, .vec 1 ((headL h).map byteD) .none] [] = some (.tuple [.vec 1 ((encH h).map byteD) .box, .nili], []) := se_ok hC.toLib05 4 (headL h) (by decide) (by omega)
  have l4 := encH_len hm
  have ne1 : ((encH h).map byteD).isEmpty = false := by
    cases hp : encH h with
    | nil => rw [hp] at l4; cases l4
    | cons _ _ => rfl
  have lp := loop32 hC h hm
  unfold Hd.D at c1 ⊢
  simp only [fi32, Tryd.f32, an32, c1, w1, w2, T3, T5, T22, T33, T68, T71, T175, EL, e_finWf, e_finWt, e_finMN, e_finMX, retM, meltV, tupV, D.asBox, D.row1, D.freeR, D.freeO, List.replicate_succ, stepD, accs, accP, accW, simpleOp, isAl, isExt, flipD, D.fresh1, D.row, D.plain, D.plain.plainL, St.close, St.close1, St.borrow, retV, resV, resL, outCL, outC, outL, outD, wantedV, opV, An.mid, thawV, St.settle, D.plainU, prune, envOf, get, put, eval, evalT, nz, argsV, capsV, ofV, binV, binV.aggV, unV, intV, eqOp, isConst, natV, optV, loadV, loadC, storeV, setC, St.at_, partV, partTy, indexAddrV, fieldAddrV, sliceV, sliceV.rowSl, sliceV.strSl, bounds, cutP, builtinV, lenV, maxL, maxV, appendV, St.elems, roomy, rowOf, rowS, isStr, esz, tdOf, convV, buildV, fillV, partsV, okParts, fillL, D.whole, D.demoteC, D.demote, demoteL, D.global, D.flat, D.leaf, D.cells, TI.agg, TD.rowish, callOpV, moveL, CC, keepB, St.borrowL, St.borrow, D.isLsl, adoptR, adoptC, adoptCL, adoptL, adopt, List.toArray, Array.toList, Nat.reduceEqDiff, Nat.reduceAdd, Nat.reduceSub, Nat.reduceMul, Nat.reduceLeDiff, Nat.reduceLT, reduceIte, reduceCtorEq, forall_const, imp_self, Int.reduceNeg, Int.reduceLT, Int.reduceLE, Int.reduceGT, Int.reduceGE, Int.reduceAdd, Int.reduceSub, Int.reduceMul, Int.reduceToNat, Int.reduceEq, ne_eq, eq_self]
  refine' in_loop (c' := lp32_0) (finM T _ _ _) ?h rfl ?q
  case h =>
    refine lp _ ?_
    simp only [an32, ren_map, toks_map, boxes_map, st32, nlit, An.at_, tidyV, tidyW, tidyB, tidyT, sift, envBoxes, envToks, conToks, D.toks, D.tok1, toksL, D.boxes, D.box1, boxesL, memN, posN, renE, D.ren, D.ren1, renL, renB, St.content, St.boxOk, St.tokOk, trues, T3, T5, T22, T33, T68, T71, T175, EL, e_finWf, e_finWt, e_finMN, e_finMX, retM, meltV, tupV, D.asBox, D.row1, D.freeR, D.freeO, List.replicate_succ, stepD, accs, accP, accW, simpleOp, isAl, isExt, flipD, D.fresh1, D.row, D.plain, D.plain.plainL, St.close, St.close1, St.borrow, retV, resV, resL, outCL, outC, outL, outD, wantedV, opV, An.mid, thawV, St.settle, D.plainU, prune, envOf, get, put, eval, evalT, nz, argsV, capsV, ofV, binV, binV.aggV, unV, intV, eqOp, isConst, natV, optV, loadV, loadC, storeV, setC, St.at_, partV, partTy, indexAddrV, fieldAddrV, sliceV, sliceV.rowSl, sliceV.strSl, bounds, cutP, builtinV, lenV, maxL, maxV, appendV, St.elems, roomy, rowOf, rowS, isStr, esz, tdOf, convV, buildV, fillV, partsV, okParts, fillL, D.whole, D.demoteC, D.demote, demoteL, D.global, D.flat, D.leaf, D.cells, TI.agg, TD.rowish, callOpV, moveL, CC, keepB, St.borrowL, St.borrow, D.isLsl, adoptR, adoptC, adoptCL, adoptL, adopt, List.toArray, Array.toList, Nat.reduceEqDiff, Nat.reduceAdd, Nat.reduceSub, Nat.reduceMul, Nat.reduceLeDiff, Nat.reduceLT, reduceIte, reduceCtorEq, forall_const, imp_self, Int.reduceNeg, Int.reduceLT, Int.reduceLE, Int.reduceGT, Int.reduceGE, Int.reduceAdd, Int.reduceSub, Int.reduceMul, Int.reduceToNat, Int.reduceEq, ne_eq, eq_self]
    all_goals rfl
  rintro x st' ⟨rfl, ρ, rfl, r5⟩
  simp only [r5, c2, l4, ne1, glob_bytes, leaf_bytes, plain_bytes, T3, T5, T22, T33, T68, T71, T175, EL, e_finWf, e_finWt, e_finMN, e_finMX, retM, meltV, tupV, D.asBox, D.row1, D.freeR, D.freeO, List.replicate_succ, stepD, accs, accP, accW, simpleOp, isAl, isExt, flipD, D.fresh1, D.row, D.plain, D.plain.plainL, St.close, St.close1, St.borrow, retV, resV, resL, outCL, outC, outL, outD, wantedV, opV, An.mid, thawV, St.settle, D.plainU, prune, envOf, get, put, eval, evalT, nz, argsV, capsV, ofV, binV, binV.aggV, unV, intV, eqOp, isConst, natV, optV, loadV, loadC, storeV, setC, St.at_, partV, partTy, indexAddrV, fieldAddrV, sliceV, sliceV.rowSl, sliceV.strSl, bounds, cutP, builtinV, lenV, maxL, maxV, appendV, St.elems, roomy, rowOf, rowS, isStr, esz, tdOf, convV, buildV, fillV, partsV, okParts, fillL, D.whole, D.demoteC, D.demote, demoteL, D.global, D.flat, D.leaf, D.cells, TI.agg, TD.rowish, callOpV, moveL, CC, keepB, St.borrowL, St.borrow, D.isLsl, adoptR, adoptC, adoptCL, adoptL, adopt, List.toArray, Array.toList, Nat.reduceEqDiff, Nat.reduceAdd, Nat.reduceSub, Nat.reduceMul, Nat.reduceLeDiff, Nat.reduceLT, reduceIte, reduceCtorEq, forall_const, imp_self, Int.reduceNeg, Int.reduceLT, Int.reduceLE, Int.reduceGT, Int.reduceGE, Int.reduceAdd, Int.reduceSub, Int.reduceMul, Int.reduceToNat, Int.reduceEq, ne_eq, eq_self]
  done

end Go.Proofs.YtnhelkclkdfndaaDoor.V
