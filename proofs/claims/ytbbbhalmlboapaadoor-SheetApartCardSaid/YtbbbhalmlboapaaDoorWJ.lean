/-
Layer 5: SheetApart.
-/
import Derived.Test.YtbbbhalmlboapaaDoorWI
namespace Go.Proofs.YtbbbhalmlboapaaDoor.V
open Go Go.RowKit
set_option linter.unusedSimpArgs false
set_option linter.unusedVariables false

/-! warren/warrenlaw05.SheetApart -/
def an13 : An := ⟨fun _ => .none, fun _ => 0, fun _ => false, fun _ => .none⟩
noncomputable def fi13 : FI := ⟨3, 115, Tryd.f13.body.getD .skip, Tryd.f13.results.toList, an13, false, false, false⟩
theorem ok13 : FnOk Tryd.prog 13 fi13 := ⟨⟨Tryd.f13, Tryd.func13, by kernel_rfl, rfl, rfl, rfl⟩, by decide, by kernel_rfl, fun h => by cases h⟩

variable {C : Callees}

theorem byte_mod5 (k : UInt8) : IntKind.u8.wrap (1 + (k.toNat : Int).tmod 5) = ((kd k).toNat : Int) := by
  have hkn := kd_nat k
  have hk5 : k.toNat % 5 < 5 := Nat.mod_lt _ (by decide)
  have t1 : (k.toNat : Int).tmod 5 = ((k.toNat % 5 : Nat) : Int) := by rw [Int.tmod_eq_emod_of_nonneg (by omega)]; omega
  rw [t1, wrap_u8 (by omega) (by omega), hkn]; omega

set_option maxRecDepth 20000 in
set_option maxHeartbeats 8000000 in
theorem run13 (hC : Known05 C) (a b : List UInt8) (p q : UInt8) : runV T C fi13 [byV a .none, byV b .none, .agg [.int .u8 p.toNat, .int .u8 q.toNat]] [] = some (.bool true, []) := by
  rw [e_run _ _ _ rfl]
  have hL := hC.toLib05
  have c5 := c53 hC
  by_cases h1 : (a.length : Int) > 504
  · simp only [fi13, Tryd.f13, an13, h1, c5, T3, T4, T5, T9, T24, T33, T63, EL, e_finWf, e_finWt, e_finMN, e_finMX, retM, meltV, tupV, D.asBox, D.row1, D.freeR, D.freeO, List.replicate_succ, stepD, accs, accP, accW, simpleOp, isAl, isExt, flipD, D.fresh1, D.row, D.plain, D.plain.plainL, St.close, St.close1, St.borrow, retV, resV, resL, outCL, outC, outL, outD, wantedV, opV, An.mid, thawV, St.settle, D.plainU, prune, envOf, get, put, eval, evalT, nz, argsV, capsV, ofV, binV, binV.aggV, unV, intV, eqOp, isConst, natV, optV, loadV, loadC, storeV, setC, St.at_, partV, partTy, indexAddrV, fieldAddrV, sliceV, sliceV.rowSl, sliceV.strSl, bounds, cutP, builtinV, lenV, maxL, maxV, appendV, St.elems, roomy, rowOf, rowS, isStr, esz, tdOf, convV, buildV, fillV, partsV, okParts, fillL, D.whole, D.demoteC, D.demote, demoteL, D.global, D.flat, D.leaf, D.cells, TI.agg, TD.rowish, callOpV, moveL, CC, keepB, St.borrowL, St.borrow, D.isLsl, adoptR, adoptC, adoptCL, adoptL, adopt, List.toArray, Array.toList, Nat.reduceEqDiff, Nat.reduceAdd, Nat.reduceSub, Nat.reduceMul, Nat.reduceLeDiff, Nat.reduceLT, reduceIte, reduceCtorEq, forall_const, imp_self, Int.reduceNeg, Int.reduceLT, Int.reduceLE, Int.reduceGT, Int.reduceGE, Int.reduceAdd, Int.reduceSub, Int.reduceMul, Int.reduceToNat, Int.reduceEq, ne_eq, eq_self]
  by_cases h2 : (b.length : Int) > 504
  · simp only [fi13, Tryd.f13, an13, h1, h2, c5, T3, T4, T5, T9, T24, T33, T63, EL, e_finWf, e_finWt, e_finMN, e_finMX, retM, meltV, tupV, D.asBox, D.row1, D.freeR, D.freeO, List.replicate_succ, stepD, accs, accP, accW, simpleOp, isAl, isExt, flipD, D.fresh1, D.row, D.plain, D.plain.plainL, St.close, St.close1, St.borrow, retV, resV, resL, outCL, outC, outL, outD, wantedV, opV, An.mid, thawV, St.settle, D.plainU, prune, envOf, get, put, eval, evalT, nz, argsV, capsV, ofV, binV, binV.aggV, unV, intV, eqOp, isConst, natV, optV, loadV, loadC, storeV, setC, St.at_, partV, partTy, indexAddrV, fieldAddrV, sliceV, sliceV.rowSl, sliceV.strSl, bounds, cutP, builtinV, lenV, maxL, maxV, appendV, St.elems, roomy, rowOf, rowS, isStr, esz, tdOf, convV, buildV, fillV, partsV, okParts, fillL, D.whole, D.demoteC, D.demote, demoteL, D.global, D.flat, D.leaf, D.cells, TI.agg, TD.rowish, callOpV, moveL, CC, keepB, St.borrowL, St.borrow, D.isLsl, adoptR, adoptC, adoptCL, adoptL, adopt, List.toArray, Array.toList, Nat.reduceEqDiff, Nat.reduceAdd, Nat.reduceSub, Nat.reduceMul, Nat.reduceLeDiff, Nat.reduceLT, reduceIte, reduceCtorEq, forall_const, imp_self, Int.reduceNeg, Int.reduceLT, Int.reduceLE, Int.reduceGT, Int.reduceGE, Int.reduceAdd, Int.reduceSub, Int.reduceMul, Int.reduceToNat, Int.reduceEq, ne_eq, eq_self]
  have ha : a.length ≤ 504 := by omega
  have hb : b.length ≤ 504 := by omega
  have w1 := byte_mod5 p
  have w2 := byte_mod5 q
  have c1 := se_ok hL (kd p) a (kd_ok p) ha
  have c2 := se_ok hL (kd q) b (kd_ok q) hb
  have l1 : (pag (kd p) a).length = 512 := pag_len ha
  have l2 : (pag (kd q) b).length = 512 := pag_len hb
  have ne1 : ((pag (kd p) a).map byteD).isEmpty = false := by
    cases hp : pag (kd p) a with
    | nil => rw [hp] at l1; cases l1
    | cons _ _ => rfl
  have ne2 : ((pag (kd q) b).map byteD).isEmpty = false := by
    cases hp : pag (kd q) b with
    | nil => rw [hp] at l2; cases l2
    | cons _ _ => rfl
  have c3 := rm_ok hL a.length ha []
  have w3 : IntKind.i64.wrap (504 - (a.length : Int)) = ((504 - a.length : Nat) : Int) := by rw [wrapI (by omega) (by omega)]; omega
  have w4 : IntKind.i64.wrap (4 + (a.length : Int)) = ((4 + a.length : Nat) : Int) := by rw [wrapI (by omega) (by omega)]; omega
  have n1 := nat0 (4 + a.length)
  have l3 : 4 + a.length ≤ 508 := by omega
  have l4 : 4 ≤ 4 + a.length := by omega
  have l5 : 4 + a.length ≤ 512 := by omega
  have e1 : ((pag (kd p) a).take 508).drop (4 + a.length) = zers (504 - a.length) := by rw [pag_take508 ha, frt_drop]
  have c4 := c60 hL (zers (504 - a.length)) (by rw [zers_len]; omega) []
  rw [blank_zers] at c4
  have e2 := pag_load (kd p) a
  have sA := str_eq a
  have k1 : decide ((kd p).toNat = (kd q).toNat) = decide (kd p = kd q) := decide_eq_decide.2 ⟨fun h => UInt8.toNat_inj.1 h, fun h => by rw [h]⟩
  have k2 : decide (((kd p).toNat : Int) = ((kd q).toNat : Int)) = decide (kd p = kd q) := by rw [← k1]; exact decide_eq_decide.2 Int.ofNat_inj
  have sP : strV .eql (pag (kd p) a) (pag (kd q) b) = some (.bool (decide (kd p = kd q) && decide (a = b))) := by
    have : (pag (kd p) a == pag (kd q) b) = (decide (kd p = kd q) && decide (a = b)) := by
      rw [Bool.eq_iff_iff, Bool.and_eq_true, beq_iff_eq, decide_eq_true_eq, decide_eq_true_eq]
      exact ⟨pag_inj ha hb, fun ⟨h, h'⟩ => by rw [h, h']⟩
    simp only [strV, this]
  have sB : strV .eql a b = some (.bool (decide (a = b))) := by
    have : (a == b) = decide (a = b) := by rw [Bool.eq_iff_iff, beq_iff_eq, decide_eq_true_eq]
    simp only [strV, this]
  generalize decide (kd p = kd q) = x at k2 sP
  generalize decide (a = b) = y at sP sB
  cases x <;> cases y <;>
  (simp only [fi13, Tryd.f13, an13, h512, h1, h2, w1, w2, c1, c2, l1, l2, ne1, ne2, c3, w3, w4, n1, l3, l4, l5, e1, c4, e2, sA, k2, sP, sB, c5, bytesOf_map, Int.toNat_natCast, T3, T4, T5, T9, T24, T33, T63, EL, e_finWf, e_finWt, e_finMN, e_finMX, retM, meltV, tupV, D.asBox, D.row1, D.freeR, D.freeO, List.replicate_succ, stepD, accs, accP, accW, simpleOp, isAl, isExt, flipD, D.fresh1, D.row, D.plain, D.plain.plainL, St.close, St.close1, St.borrow, retV, resV, resL, outCL, outC, outL, outD, wantedV, opV, An.mid, thawV, St.settle, D.plainU, prune, envOf, get, put, eval, evalT, nz, argsV, capsV, ofV, binV, binV.aggV, unV, intV, eqOp, isConst, natV, optV, loadV, loadC, storeV, setC, St.at_, partV, partTy, indexAddrV, fieldAddrV, sliceV, sliceV.rowSl, sliceV.strSl, bounds, cutP, builtinV, lenV, maxL, maxV, appendV, St.elems, roomy, rowOf, rowS, isStr, esz, tdOf, convV, buildV, fillV, partsV, okParts, fillL, D.whole, D.demoteC, D.demote, demoteL, D.global, D.flat, D.leaf, D.cells, TI.agg, TD.rowish, callOpV, moveL, CC, keepB, St.borrowL, St.borrow, D.isLsl, adoptR, adoptC, adoptCL, adoptL, adopt, List.toArray, Array.toList, Nat.reduceEqDiff, Nat.reduceAdd, Nat.reduceSub, Nat.reduceMul, Nat.reduceLeDiff, Nat.reduceLT, reduceIte, reduceCtorEq, forall_const, imp_self, Int.reduceNeg, Int.reduceLT, Int.reduceLE, Int.reduceGT, Int.reduceGE, Int.reduceAdd, Int.reduceSub, Int.reduceMul, Int.reduceToNat, Int.reduceEq, ne_eq, eq_self]
   done)

end Go.Proofs.YtbbbhalmlboapaaDoor.V
