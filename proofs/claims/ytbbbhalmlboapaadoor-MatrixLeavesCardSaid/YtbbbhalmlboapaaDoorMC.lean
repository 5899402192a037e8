/-
Layer 31: who may see whom: the rest of the program's functions.
-/
import Derived.Test.YtbbbhalmlboapaaDoorMB
namespace Go.Proofs.YtbbbhalmlboapaaDoor.V
open Go Go.RowKit
set_option linter.unusedSimpArgs false
set_option linter.unusedVariables false

variable {C : Callees}

set_option maxRecDepth 10000 in
theorem run26_f (hC : Lib31 C) {m : Nat → Nat} (hm : Bnd m) {a b : Int} (h : twoS m a b = false) (B : Hp) : runV T C fi26 [mD m, .int .i64 a, .int .i64 b] B = some (.tuple [mD zeroM, errD 1], B) := by
  rw [e_run _ _ _ rfl]
  have c1 := tw_f hC hm h
  simp only [fi26, Tryd.f26, an26, c1, AL, T24, T39, T42, EL, List.replicate_succ, stepD, accs, accP, accW, simpleOp, isAl, isExt, flipD, D.fresh1, D.row, D.plain, D.plain.plainL, St.close, St.close1, St.borrow, retV, resV, resL, outCL, outC, outL, outD, wantedV, opV, An.mid, thawV, D.plainU, prune, envOf, get, put, eval, evalT, nz, argsV, capsV, ofV, binV, binV.aggV, unV, intV, eqOp, isConst, natV, optV, loadV, loadC, storeV, setC, St.at_, partV, partTy, indexAddrV, fieldAddrV, sliceV, sliceV.rowSl, sliceV.strSl, bounds, cutP, builtinV, lenV, maxL, maxV, appendV, St.elems, roomy, rowOf, rowS, isStr, esz, tdOf, convV, buildV, fillV, partsV, okParts, fillL, D.whole, D.demoteC, D.demote, demoteL, D.global, D.flat, D.leaf, D.cells, TI.agg, TD.rowish, callOpV, moveL, CC, keepB, St.borrowL, St.borrow, D.isLsl, adoptR, adoptC, adoptCL, adoptL, adopt, List.toArray, Array.toList, Nat.reduceEqDiff, Nat.reduceAdd, Nat.reduceSub, Nat.reduceMul, Nat.reduceLeDiff, Nat.reduceLT, reduceIte, reduceCtorEq, forall_const, imp_self, Int.reduceNeg, Int.reduceLT, Int.reduceLE, Int.reduceGT, Int.reduceGE, Int.reduceAdd, Int.reduceSub, Int.reduceMul, Int.reduceToNat, Int.reduceEq, ne_eq, eq_self]
  rfl

set_option maxRecDepth 10000 in
theorem run26_t (hC : Lib31 C) {m : Nat → Nat} (hm : Bnd m) {a b : Nat} (ha : a < 16) (hb : b < 16) (hab : a ≠ b) (h : mayM m = true) (B : Hp) : runV T C fi26 [mD m, .int .i64 a, .int .i64 b] B = some (.tuple [mD (cls m a b), .nili], B) := by
  rw [e_run _ _ _ rfl]
  have c1 := tw_t hC hm (two_n h ha hb hab)
  have n1 := nat0 a
  have n2 := nat0 b
  have c2 := c66 hC a ha
  have c3 := c66 hC b hb
  have g1 := nums_get (k := .u16) (m := m) ha
  have b1 := u16_andn (hm a ha) (pow16 hb)
  have s1 := nums_set (k := .u16) (m := m) (x := andN (m a) (2 ^ b)) ha
  have g2 := nums_get (k := .u16) (m := updA m a (andN (m a) (2 ^ b))) hb
  rw [updA_ne m _ (fun e => hab e.symm)] at g2
  have b2 := u16_andn (hm b hb) (pow16 ha)
  have s2 := nums_set (k := .u16) (m := updA m a (andN (m a) (2 ^ b))) (x := andN (m b) (2 ^ a)) hb
  simp only [fi26, Tryd.f26, an26, c1, c2, c3, n1, n2, ha, hb, g1, g2, b1, b2, s1, s2, AL, T24, T39, T42, EL, List.replicate_succ, stepD, accs, accP, accW, simpleOp, isAl, isExt, flipD, D.fresh1, D.row, D.plain, D.plain.plainL, St.close, St.close1, St.borrow, retV, resV, resL, outCL, outC, outL, outD, wantedV, opV, An.mid, thawV, D.plainU, prune, envOf, get, put, eval, evalT, nz, argsV, capsV, ofV, binV, binV.aggV, unV, intV, eqOp, isConst, natV, optV, loadV, loadC, storeV, St.at_, partV, partTy, indexAddrV, fieldAddrV, sliceV, sliceV.rowSl, sliceV.strSl, bounds, cutP, builtinV, lenV, maxL, maxV, appendV, St.elems, roomy, rowOf, rowS, isStr, esz, tdOf, convV, buildV, fillV, partsV, okParts, fillL, D.whole, D.demoteC, D.demote, demoteL, D.global, D.flat, D.leaf, D.cells, TI.agg, TD.rowish, callOpV, moveL, CC, keepB, St.borrowL, St.borrow, D.isLsl, adoptR, adoptC, adoptCL, adoptL, adopt, List.toArray, Array.toList, Nat.reduceEqDiff, Nat.reduceAdd, Nat.reduceSub, Nat.reduceMul, Nat.reduceLeDiff, Nat.reduceLT, reduceIte, reduceCtorEq, forall_const, imp_self, Int.reduceNeg, Int.reduceLT, Int.reduceLE, Int.reduceGT, Int.reduceGE, Int.reduceAdd, Int.reduceSub, Int.reduceMul, Int.reduceToNat, Int.reduceEq, ne_eq, eq_self]
  rfl

theorem op_f (hC : Lib31 C) {m : Nat → Nat} (hm : Bnd m) {a b : Int} (h : twoS m a b = false) (B : Hp) : C 24 [.agg (nums .u16 16 m), .int .i64 a, .int .i64 b] B = some (.tuple [.agg (nums .u16 16 zeroM), .iface 102 (.int .i64 1)], B) := hC.f24 _ _ _ (run24_f hC hm h B)
theorem op_t (hC : Lib31 C) {m : Nat → Nat} (hm : Bnd m) {a b : Nat} (ha : a < 16) (hb : b < 16) (hab : a ≠ b) (h : mayM m = true) (B : Hp) : C 24 [.agg (nums .u16 16 m), .int .i64 a, .int .i64 b] B = some (.tuple [.agg (nums .u16 16 (opn m a b)), .nili], B) := hC.f24 _ _ _ (run24_t hC hm ha hb hab h B)
theorem cl_f (hC : Lib31 C) {m : Nat → Nat} (hm : Bnd m) {a b : Int} (h : twoS m a b = false) (B : Hp) : C 26 [.agg (nums .u16 16 m), .int .i64 a, .int .i64 b] B = some (.tuple [.agg (nums .u16 16 zeroM), .iface 102 (.int .i64 1)], B) := hC.f26 _ _ _ (run26_f hC hm h B)
theorem cl_t (hC : Lib31 C) {m : Nat → Nat} (hm : Bnd m) {a b : Nat} (ha : a < 16) (hb : b < 16) (hab : a ≠ b) (h : mayM m = true) (B : Hp) : C 26 [.agg (nums .u16 16 m), .int .i64 a, .int .i64 b] B = some (.tuple [.agg (nums .u16 16 (cls m a b)), .nili], B) := hC.f26 _ _ _ (run26_t hC hm ha hb hab h B)

/-! ### Sees -/
noncomputable def seesS (m : Nat → Nat) (a b : Int) : Bool := mayM m && plc a && plc b && (decide (a = b) || tb m a.toNat b.toNat)

set_option maxRecDepth 10000 in
theorem run31 (hC : Lib31 C) {m : Nat → Nat} (hm : Bnd m) (a b : Int) (B : Hp) : runV T C fi31 [mD m, .int .i64 a, .int .i64 b] B = some (.bool (seesS m a b), B) := by
  rw [e_run _ _ _ rfl]
  unfold seesS
  have p1 := c69 hC a
  have p2 := c69 hC b
  cases e1 : mayM m
  · have c1 := ck_f hC hm e1
    simp only [fi31, Tryd.f31, an31, c1, AL, T3, T24, T39, T42, EL, List.replicate_succ, stepD, accs, accP, accW, simpleOp, isAl, isExt, flipD, D.fresh1, D.row, D.plain, D.plain.plainL, St.close, St.close1, St.borrow, retV, resV, resL, outCL, outC, outL, outD, wantedV, opV, An.mid, thawV, D.plainU, prune, envOf, get, put, eval, evalT, nz, argsV, capsV, ofV, binV, binV.aggV, unV, intV, eqOp, isConst, natV, optV, loadV, loadC, storeV, setC, St.at_, partV, partTy, indexAddrV, fieldAddrV, sliceV, sliceV.rowSl, sliceV.strSl, bounds, cutP, builtinV, lenV, maxL, maxV, appendV, St.elems, roomy, rowOf, rowS, isStr, esz, tdOf, convV, buildV, fillV, partsV, okParts, fillL, D.whole, D.demoteC, D.demote, demoteL, D.global, D.flat, D.leaf, D.cells, TI.agg, TD.rowish, callOpV, moveL, CC, keepB, St.borrowL, St.borrow, D.isLsl, adoptR, adoptC, adoptCL, adoptL, adopt, List.toArray, Array.toList, Nat.reduceEqDiff, Nat.reduceAdd, Nat.reduceSub, Nat.reduceMul, Nat.reduceLeDiff, Nat.reduceLT, reduceIte, reduceCtorEq, forall_const, imp_self, Int.reduceNeg, Int.reduceLT, Int.reduceLE, Int.reduceGT, Int.reduceGE, Int.reduceAdd, Int.reduceSub, Int.reduceMul, Int.reduceToNat, Int.reduceEq, ne_eq, eq_self]
  · have c1 := ck_t hC hm e1
    cases e2 : plc a <;> rw [e2] at p1
    · simp only [fi31, Tryd.f31, an31, c1, p1, AL, T3, T24, T39, T42, EL, List.replicate_succ, stepD, accs, accP, accW, simpleOp, isAl, isExt, flipD, D.fresh1, D.row, D.plain, D.plain.plainL, St.close, St.close1, St.borrow, retV, resV, resL, outCL, outC, outL, outD, wantedV, opV, An.mid, thawV, D.plainU, prune, envOf, get, put, eval, evalT, nz, argsV, capsV, ofV, binV, binV.aggV, unV, intV, eqOp, isConst, natV, optV, loadV, loadC, storeV, setC, St.at_, partV, partTy, indexAddrV, fieldAddrV, sliceV, sliceV.rowSl, sliceV.strSl, bounds, cutP, builtinV, lenV, maxL, maxV, appendV, St.elems, roomy, rowOf, rowS, isStr, esz, tdOf, convV, buildV, fillV, partsV, okParts, fillL, D.whole, D.demoteC, D.demote, demoteL, D.global, D.flat, D.leaf, D.cells, TI.agg, TD.rowish, callOpV, moveL, CC, keepB, St.borrowL, St.borrow, D.isLsl, adoptR, adoptC, adoptCL, adoptL, adopt, List.toArray, Array.toList, Nat.reduceEqDiff, Nat.reduceAdd, Nat.reduceSub, Nat.reduceMul, Nat.reduceLeDiff, Nat.reduceLT, reduceIte, reduceCtorEq, forall_const, imp_self, Int.reduceNeg, Int.reduceLT, Int.reduceLE, Int.reduceGT, Int.reduceGE, Int.reduceAdd, Int.reduceSub, Int.reduceMul, Int.reduceToNat, Int.reduceEq, ne_eq, eq_self]
    · cases e3 : plc b <;> rw [e3] at p2
      · simp only [fi31, Tryd.f31, an31, c1, p1, p2, AL, T3, T24, T39, T42, EL, List.replicate_succ, stepD, accs, accP, accW, simpleOp, isAl, isExt, flipD, D.fresh1, D.row, D.plain, D.plain.plainL, St.close, St.close1, St.borrow, retV, resV, resL, outCL, outC, outL, outD, wantedV, opV, An.mid, thawV, D.plainU, prune, envOf, get, put, eval, evalT, nz, argsV, capsV, ofV, binV, binV.aggV, unV, intV, eqOp, isConst, natV, optV, loadV, loadC, storeV, setC, St.at_, partV, partTy, indexAddrV, fieldAddrV, sliceV, sliceV.rowSl, sliceV.strSl, bounds, cutP, builtinV, lenV, maxL, maxV, appendV, St.elems, roomy, rowOf, rowS, isStr, esz, tdOf, convV, buildV, fillV, partsV, okParts, fillL, D.whole, D.demoteC, D.demote, demoteL, D.global, D.flat, D.leaf, D.cells, TI.agg, TD.rowish, callOpV, moveL, CC, keepB, St.borrowL, St.borrow, D.isLsl, adoptR, adoptC, adoptCL, adoptL, adopt, List.toArray, Array.toList, Nat.reduceEqDiff, Nat.reduceAdd, Nat.reduceSub, Nat.reduceMul, Nat.reduceLeDiff, Nat.reduceLT, reduceIte, reduceCtorEq, forall_const, imp_self, Int.reduceNeg, Int.reduceLT, Int.reduceLE, Int.reduceGT, Int.reduceGE, Int.reduceAdd, Int.reduceSub, Int.reduceMul, Int.reduceToNat, Int.reduceEq, ne_eq, eq_self]
      · by_cases e4 : a = b
        · simp only [fi31, Tryd.f31, an31, c1, p1, p2, e4, AL, T3, T24, T39, T42, EL, List.replicate_succ, stepD, accs, accP, accW, simpleOp, isAl, isExt, flipD, D.fresh1, D.row, D.plain, D.plain.plainL, St.close, St.close1, St.borrow, retV, resV, resL, outCL, outC, outL, outD, wantedV, opV, An.mid, thawV, D.plainU, prune, envOf, get, put, eval, evalT, nz, argsV, capsV, ofV, binV, binV.aggV, unV, intV, eqOp, isConst, natV, optV, loadV, loadC, storeV, setC, St.at_, partV, partTy, indexAddrV, fieldAddrV, sliceV, sliceV.rowSl, sliceV.strSl, bounds, cutP, builtinV, lenV, maxL, maxV, appendV, St.elems, roomy, rowOf, rowS, isStr, esz, tdOf, convV, buildV, fillV, partsV, okParts, fillL, D.whole, D.demoteC, D.demote, demoteL, D.global, D.flat, D.leaf, D.cells, TI.agg, TD.rowish, callOpV, moveL, CC, keepB, St.borrowL, St.borrow, D.isLsl, adoptR, adoptC, adoptCL, adoptL, adopt, List.toArray, Array.toList, Nat.reduceEqDiff, Nat.reduceAdd, Nat.reduceSub, Nat.reduceMul, Nat.reduceLeDiff, Nat.reduceLT, reduceIte, reduceCtorEq, forall_const, imp_self, Int.reduceNeg, Int.reduceLT, Int.reduceLE, Int.reduceGT, Int.reduceGE, Int.reduceAdd, Int.reduceSub, Int.reduceMul, Int.reduceToNat, Int.reduceEq, ne_eq, eq_self]
        · obtain ⟨i, rfl, hi⟩ := plc_t e2
          obtain ⟨j, rfl, hj⟩ := plc_t e3
          have n1 := nat0 i
          have n2 := nat0 j
          have c2 := c66 hC j hj
          have g1 := nums_get (k := .u16) (m := m) hi
          have b1 := u16_and (hm i hi) (pow16 hj)
          have z1 := and_pow (x := m i) (b := j)
          unfold tb
          cases e5 : (m i).testBit j <;> rw [e5] at z1 <;>
          simp only [fi31, Tryd.f31, an31, c1, p1, p2, e4, c2, n1, n2, hi, g1, b1, z1, e5, AL, T3, T24, T39, T42, EL, List.replicate_succ, stepD, accs, accP, accW, simpleOp, isAl, isExt, flipD, D.fresh1, D.row, D.plain, D.plain.plainL, St.close, St.close1, St.borrow, retV, resV, resL, outCL, outC, outL, outD, wantedV, opV, An.mid, thawV, D.plainU, prune, envOf, get, put, eval, evalT, nz, argsV, capsV, ofV, binV, binV.aggV, unV, intV, eqOp, isConst, natV, optV, loadV, loadC, storeV, setC, St.at_, partV, partTy, indexAddrV, fieldAddrV, sliceV, sliceV.rowSl, sliceV.strSl, bounds, cutP, builtinV, lenV, maxL, maxV, appendV, St.elems, roomy, rowOf, rowS, isStr, esz, tdOf, convV, buildV, fillV, partsV, okParts, fillL, D.whole, D.demoteC, D.demote, demoteL, D.global, D.flat, D.leaf, D.cells, TI.agg, TD.rowish, callOpV, moveL, CC, keepB, St.borrowL, St.borrow, D.isLsl, adoptR, adoptC, adoptCL, adoptL, adopt, List.toArray, Array.toList, Nat.reduceEqDiff, Nat.reduceAdd, Nat.reduceSub, Nat.reduceMul, Nat.reduceLeDiff, Nat.reduceLT, reduceIte, reduceCtorEq, forall_const, imp_self, Int.reduceNeg, Int.reduceLT, Int.reduceLE, Int.reduceGT, Int.reduceGE, Int.reduceAdd, Int.reduceSub, Int.reduceMul, Int.reduceToNat, Int.reduceEq, ne_eq, eq_self]
theorem c31 (hC : Lib31 C) {m : Nat → Nat} (hm : Bnd m) (a b : Int) (B : Hp) : C 31 [.agg (nums .u16 16 m), .int .i64 a, .int .i64 b] B = some (.bool (seesS m a b), B) := hC.f31 _ _ _ (run31 hC hm a b B)

/-! ### Leave -/
def lvk (m : Nat → Nat) (a k : Nat) : Nat → Nat := fun i => if i < k then lve m a i else updA m a 0 i
def st29 (B : Hp) (m : Nat → Nat) (a : Nat) (k : Nat) : St := ⟨[(1, .int .i64 a), (2, .lptr 0 0), (4, .lptr 1 0), (19, .int .i64 k)], [some (nums .u16 16 (lvk m a k)), some (nums .u16 16 zeroM)], [], B⟩

set_option maxRecDepth 10000 in
theorem loop29 (hC : Lib31 C) (B : Hp) {m : Nat → Nat} (hm : Bnd m) {a : Nat} (ha : a < 16) (st : St) (hst : an29.at_ (some 5) st = st29 B m a 0) :
    ∃ x st', loopC T an29 C lp29_0 st = some (x, st') ∧ x = .exit 0 ∧ ∃ ρ, st' = ⟨ρ, [some (nums .u16 16 (lve m a)), some (nums .u16 16 zeroM)], [], B⟩ ∧ get ρ 2 = .lptr 0 0 ∧ get ρ 4 = .lptr 1 0 := by
  refine loop_rule (st29 B m a) (fun k => k ≤ 16) (fun k => 16 - k) _ ?_ 0 st hst (by omega)
  intro k hk
  rcases Nat.lt_or_ge k 16 with h | h
  · left
    refine ⟨k + 1, ?_, by omega, by omega⟩
    have g0 : (k : Int) < 16 := by omega
    have w1 : IntKind.i64.wrap ((k : Int) + 1) = ((k + 1 : Nat) : Int) := by rw [wrapI (by omega) (by omega)]; rfl
    have n1 := nat0 k
    have c1 := c66 hC a ha
    have hb : (lvk m a k) k < 65536 := by
      unfold lvk
      rw [if_neg (by omega)]
      exact adn_bnd hm (by decide) k h
    have g1 := nums_get (k := .u16) (m := lvk m a k) h
    have b1 := u16_andn hb (pow16 ha)
    have s1 := nums_set (k := .u16) (m := lvk m a k) (x := andN (lvk m a k k) (2 ^ a)) h
    have e : updA (lvk m a k) k (andN (lvk m a k k) (2 ^ a)) = lvk m a (k + 1) := by
      funext i
      unfold updA lvk
      by_cases e1 : i = k
      · subst e1
        rw [if_pos rfl, if_neg (by omega), if_pos (by omega)]
        unfold lve updA; rfl
      · rw [if_neg e1]
        by_cases e2 : i < k
        · rw [if_pos e2, if_pos (by omega)]
        · rw [if_neg e2, if_neg (by omega)]
    rw [e] at s1
    simp only [st29, lp29_0, subC, atC, Tryd.f29, an29, g0, w1, n1, h, c1, g1, b1, s1, AL, T3, T4, T24, T39, T42, T102, EL, List.replicate_succ, stepD, accs, accP, accW, simpleOp, isAl, isExt, flipD, D.fresh1, D.row, D.plain, D.plain.plainL, St.close, St.close1, St.borrow, retV, resV, resL, outCL, outC, outL, outD, wantedV, opV, An.mid, thawV, D.plainU, prune, envOf, get, put, eval, evalT, nz, argsV, capsV, ofV, binV, binV.aggV, unV, intV, eqOp, isConst, natV, optV, loadV, loadC, storeV, St.at_, partV, partTy, indexAddrV, fieldAddrV, sliceV, sliceV.rowSl, sliceV.strSl, bounds, cutP, builtinV, lenV, maxL, maxV, appendV, St.elems, roomy, rowOf, rowS, isStr, esz, tdOf, convV, buildV, fillV, partsV, okParts, fillL, D.whole, D.demoteC, D.demote, demoteL, D.global, D.flat, D.leaf, D.cells, TI.agg, TD.rowish, callOpV, moveL, CC, keepB, St.borrowL, St.borrow, D.isLsl, adoptR, adoptC, adoptCL, adoptL, adopt, List.toArray, Array.toList, Nat.reduceEqDiff, Nat.reduceAdd, Nat.reduceSub, Nat.reduceMul, Nat.reduceLeDiff, Nat.reduceLT, reduceIte, reduceCtorEq, forall_const, imp_self, Int.reduceNeg, Int.reduceLT, Int.reduceLE, Int.reduceGT, Int.reduceGE, Int.reduceAdd, Int.reduceSub, Int.reduceMul, Int.reduceToNat, Int.reduceEq, ne_eq, eq_self]
    exact ⟨_, rfl, rfl⟩
  · right
    obtain rfl : k = 16 := by omega
    have g0 : ¬ ((16 : Nat) : Int) < 16 := by omega
    have e : nums .u16 16 (lvk m a 16) = nums .u16 16 (lve m a) := nums_ext (fun i hi => by unfold lvk; rw [if_pos hi])
    simp only [st29, lp29_0, subC, atC, Tryd.f29, an29, g0, e, T3, T4, T24, T39, T42, T102, EL, List.replicate_succ, stepD, accs, accP, accW, simpleOp, isAl, isExt, flipD, D.fresh1, D.row, D.plain, D.plain.plainL, St.close, St.close1, St.borrow, retV, resV, resL, outCL, outC, outL, outD, wantedV, opV, An.mid, thawV, D.plainU, prune, envOf, get, put, eval, evalT, nz, argsV, capsV, ofV, binV, binV.aggV, unV, intV, eqOp, isConst, natV, optV, loadV, loadC, storeV, setC, St.at_, partV, partTy, indexAddrV, fieldAddrV, sliceV, sliceV.rowSl, sliceV.strSl, bounds, cutP, builtinV, lenV, maxL, maxV, appendV, St.elems, roomy, rowOf, rowS, isStr, esz, tdOf, convV, buildV, fillV, partsV, okParts, fillL, D.whole, D.demoteC, D.demote, demoteL, D.global, D.flat, D.leaf, D.cells, TI.agg, TD.rowish, callOpV, moveL, CC, keepB, St.borrowL, St.borrow, D.isLsl, adoptR, adoptC, adoptCL, adoptL, adopt, List.toArray, Array.toList, Nat.reduceEqDiff, Nat.reduceAdd, Nat.reduceSub, Nat.reduceMul, Nat.reduceLeDiff, Nat.reduceLT, reduceIte, reduceCtorEq, forall_const, imp_self, Int.reduceNeg, Int.reduceLT, Int.reduceLE, Int.reduceGT, Int.reduceGE, Int.reduceAdd, Int.reduceSub, Int.reduceMul, Int.reduceToNat, Int.reduceEq, ne_eq, eq_self]
    exact ⟨_, _, rfl, by simp, rfl, _, rfl, rfl, rfl⟩

theorem lvk_0 (m : Nat → Nat) (a : Nat) : updA m a 0 = lvk m a 0 := by
  funext i; unfold lvk; rw [if_neg (by omega)]

set_option maxRecDepth 10000 in
theorem run29_f (hC : Lib31 C) {m : Nat → Nat} (hm : Bnd m) {a : Int} (h : (mayM m && plc a) = false) (B : Hp) : runV T C fi29 [mD m, .int .i64 a] B = some (.tuple [mD zeroM, errD 1], B) := by
  rw [e_run _ _ _ rfl]
  have p1 := c69 hC a
  cases e1 : mayM m
  · have c1 := ck_f hC hm e1
    simp only [fi29, Tryd.f29, an29, c1, AL, T3, T4, T24, T39, T42, T102, EL, List.replicate_succ, stepD, accs, accP, accW, simpleOp, isAl, isExt, flipD, D.fresh1, D.row, D.plain, D.plain.plainL, St.close, St.close1, St.borrow, retV, resV, resL, outCL, outC, outL, outD, wantedV, opV, An.mid, thawV, D.plainU, prune, envOf, get, put, eval, evalT, nz, argsV, capsV, ofV, binV, binV.aggV, unV, intV, eqOp, isConst, natV, optV, loadV, loadC, storeV, setC, St.at_, partV, partTy, indexAddrV, fieldAddrV, sliceV, sliceV.rowSl, sliceV.strSl, bounds, cutP, builtinV, lenV, maxL, maxV, appendV, St.elems, roomy, rowOf, rowS, isStr, esz, tdOf, convV, buildV, fillV, partsV, okParts, fillL, D.whole, D.demoteC, D.demote, demoteL, D.global, D.flat, D.leaf, D.cells, TI.agg, TD.rowish, callOpV, moveL, CC, keepB, St.borrowL, St.borrow, D.isLsl, adoptR, adoptC, adoptCL, adoptL, adopt, List.toArray, Array.toList, Nat.reduceEqDiff, Nat.reduceAdd, Nat.reduceSub, Nat.reduceMul, Nat.reduceLeDiff, Nat.reduceLT, reduceIte, reduceCtorEq, forall_const, imp_self, Int.reduceNeg, Int.reduceLT, Int.reduceLE, Int.reduceGT, Int.reduceGE, Int.reduceAdd, Int.reduceSub, Int.reduceMul, Int.reduceToNat, Int.reduceEq, ne_eq, eq_self]
    rfl
  · have c1 := ck_t hC hm e1
    rw [e1, Bool.true_and] at h
    rw [h] at p1
    simp only [fi29, Tryd.f29, an29, c1, p1, AL, T3, T4, T24, T39, T42, T102, EL, List.replicate_succ, stepD, accs, accP, accW, simpleOp, isAl, isExt, flipD, D.fresh1, D.row, D.plain, D.plain.plainL, St.close, St.close1, St.borrow, retV, resV, resL, outCL, outC, outL, outD, wantedV, opV, An.mid, thawV, D.plainU, prune, envOf, get, put, eval, evalT, nz, argsV, capsV, ofV, binV, binV.aggV, unV, intV, eqOp, isConst, natV, optV, loadV, loadC, storeV, setC, St.at_, partV, partTy, indexAddrV, fieldAddrV, sliceV, sliceV.rowSl, sliceV.strSl, bounds, cutP, builtinV, lenV, maxL, maxV, appendV, St.elems, roomy, rowOf, rowS, isStr, esz, tdOf, convV, buildV, fillV, partsV, okParts, fillL, D.whole, D.demoteC, D.demote, demoteL, D.global, D.flat, D.leaf, D.cells, TI.agg, TD.rowish, callOpV, moveL, CC, keepB, St.borrowL, St.borrow, D.isLsl, adoptR, adoptC, adoptCL, adoptL, adopt, List.toArray, Array.toList, Nat.reduceEqDiff, Nat.reduceAdd, Nat.reduceSub, Nat.reduceMul, Nat.reduceLeDiff, Nat.reduceLT, reduceIte, reduceCtorEq, forall_const, imp_self, Int.reduceNeg, Int.reduceLT, Int.reduceLE, Int.reduceGT, Int.reduceGE, Int.reduceAdd, Int.reduceSub, Int.reduceMul, Int.reduceToNat, Int.reduceEq, ne_eq, eq_self]
    rfl

set_option maxRecDepth 10000 in
theorem run29_t (hC : Lib31 C) {m : Nat → Nat} (hm : Bnd m) {a : Nat} (ha : a < 16) (h : mayM m = true) (B : Hp) : runV T C fi29 [mD m, .int .i64 a] B = some (.tuple [mD (lve m a), .nili], B) := by
  rw [e_run _ _ _ rfl]
  have c1 := ck_t hC hm h
  have p1 := c69 hC a
  rw [plc_n ha] at p1
  have n1 := nat0 a
  have s1 := nums_set (k := .u16) (m := m) (x := 0) ha
  have s1 : setC (nums .u16 16 m) a [.int .u16 0] = nums .u16 16 (lvk m a 0) := by rw [← lvk_0]; exact s1
  simp only [fi29, Tryd.f29, an29, c1, p1, n1, ha, s1, AL, T3, T4, T24, T39, T42, T102, EL, List.replicate_succ, stepD, accs, accP, accW, simpleOp, isAl, isExt, flipD, D.fresh1, D.row, D.plain, D.plain.plainL, St.close, St.close1, St.borrow, retV, resV, resL, outCL, outC, outL, outD, wantedV, opV, An.mid, thawV, D.plainU, prune, envOf, get, put, eval, evalT, nz, argsV, capsV, ofV, binV, binV.aggV, unV, intV, eqOp, isConst, natV, optV, loadV, loadC, storeV, St.at_, partV, partTy, indexAddrV, fieldAddrV, sliceV, sliceV.rowSl, sliceV.strSl, bounds, cutP, builtinV, lenV, maxL, maxV, appendV, St.elems, roomy, rowOf, rowS, isStr, esz, tdOf, convV, buildV, fillV, partsV, okParts, fillL, D.whole, D.demoteC, D.demote, demoteL, D.global, D.flat, D.leaf, D.cells, TI.agg, TD.rowish, callOpV, moveL, CC, keepB, St.borrowL, St.borrow, D.isLsl, adoptR, adoptC, adoptCL, adoptL, adopt, List.toArray, Array.toList, Nat.reduceEqDiff, Nat.reduceAdd, Nat.reduceSub, Nat.reduceMul, Nat.reduceLeDiff, Nat.reduceLT, reduceIte, reduceCtorEq, forall_const, imp_self, Int.reduceNeg, Int.reduceLT, Int.reduceLE, Int.reduceGT, Int.reduceGE, Int.reduceAdd, Int.reduceSub, Int.reduceMul, Int.reduceToNat, Int.reduceEq, ne_eq, eq_self]
  refine' in_loop (c' := lp29_0) (fin T _ _ _) ?h rfl ?q
  case h =>
    refine loop29 hC B hm ha _ ?_
    simp only [an29, ren_map, toks_map, boxes_map, st29, AL, An.at_, tidyV, tidyW, tidyB, tidyT, sift, envBoxes, envToks, conToks, D.toks, D.tok1, toksL, D.boxes, D.box1, boxesL, memN, posN, renE, D.ren, D.ren1, renL, renB, St.content, St.boxOk, St.tokOk, trues, T3, T4, T24, T39, T42, T102, EL, List.replicate_succ, stepD, accs, accP, accW, simpleOp, isAl, isExt, flipD, D.fresh1, D.row, D.plain, D.plain.plainL, St.close, St.close1, St.borrow, retV, resV, resL, outCL, outC, outL, outD, wantedV, opV, An.mid, thawV, D.plainU, prune, envOf, get, put, eval, evalT, nz, argsV, capsV, ofV, binV, binV.aggV, unV, intV, eqOp, isConst, natV, optV, loadV, loadC, storeV, setC, St.at_, partV, partTy, indexAddrV, fieldAddrV, sliceV, sliceV.rowSl, sliceV.strSl, bounds, cutP, builtinV, lenV, maxL, maxV, appendV, St.elems, roomy, rowOf, rowS, isStr, esz, tdOf, convV, buildV, fillV, partsV, okParts, fillL, D.whole, D.demoteC, D.demote, demoteL, D.global, D.flat, D.leaf, D.cells, TI.agg, TD.rowish, callOpV, moveL, CC, keepB, St.borrowL, St.borrow, D.isLsl, adoptR, adoptC, adoptCL, adoptL, adopt, List.toArray, Array.toList, Nat.reduceEqDiff, Nat.reduceAdd, Nat.reduceSub, Nat.reduceMul, Nat.reduceLeDiff, Nat.reduceLT, reduceIte, reduceCtorEq, forall_const, imp_self, Int.reduceNeg, Int.reduceLT, Int.reduceLE, Int.reduceGT, Int.reduceGE, Int.reduceAdd, Int.reduceSub, Int.reduceMul, Int.reduceToNat, Int.reduceEq, ne_eq, eq_self]
    rfl
  rintro x st' ⟨rfl, ρ, rfl, h1, h2⟩
  simp only [h1, h2, AL, T3, T4, T24, T39, T42, T102, EL, List.replicate_succ, stepD, accs, accP, accW, simpleOp, isAl, isExt, flipD, D.fresh1, D.row, D.plain, D.plain.plainL, St.close, St.close1, St.borrow, retV, resV, resL, outCL, outC, outL, outD, wantedV, opV, An.mid, thawV, D.plainU, prune, envOf, get, put, eval, evalT, nz, argsV, capsV, ofV, binV, binV.aggV, unV, intV, eqOp, isConst, natV, optV, loadV, loadC, storeV, St.at_, partV, partTy, indexAddrV, fieldAddrV, sliceV, sliceV.rowSl, sliceV.strSl, bounds, cutP, builtinV, lenV, maxL, maxV, appendV, St.elems, roomy, rowOf, rowS, isStr, esz, tdOf, convV, buildV, fillV, partsV, okParts, fillL, D.whole, D.demoteC, D.demote, demoteL, D.global, D.flat, D.leaf, D.cells, TI.agg, TD.rowish, callOpV, moveL, CC, keepB, St.borrowL, St.borrow, D.isLsl, adoptR, adoptC, adoptCL, adoptL, adopt, List.toArray, Array.toList, Nat.reduceEqDiff, Nat.reduceAdd, Nat.reduceSub, Nat.reduceMul, Nat.reduceLeDiff, Nat.reduceLT, reduceIte, reduceCtorEq, forall_const, imp_self, Int.reduceNeg, Int.reduceLT, Int.reduceLE, Int.reduceGT, Int.reduceGE, Int.reduceAdd, Int.reduceSub, Int.reduceMul, Int.reduceToNat, Int.reduceEq, ne_eq, eq_self]

theorem lv_f (hC : Lib31 C) {m : Nat → Nat} (hm : Bnd m) {a : Int} (h : (mayM m && plc a) = false) (B : Hp) : C 29 [.agg (nums .u16 16 m), .int .i64 a] B = some (.tuple [.agg (nums .u16 16 zeroM), .iface 102 (.int .i64 1)], B) := hC.f29 _ _ _ (run29_f hC hm h B)
theorem lv_t (hC : Lib31 C) {m : Nat → Nat} (hm : Bnd m) {a : Nat} (ha : a < 16) (h : mayM m = true) (B : Hp) : C 29 [.agg (nums .u16 16 m), .int .i64 a] B = some (.tuple [.agg (nums .u16 16 (lve m a)), .nili], B) := hC.f29 _ _ _ (run29_t hC hm ha h B)

/-! ### Group -/
def st27 (B : Hp) (m : Nat → Nat) (x : Nat × Nat) : St := ⟨[(2, .lptr 0 0), (6, .int .u16 x.1), (7, .int .u16 x.2)], [some (nums .u16 16 m)], [], B⟩

theorem c63 (hC : Lib31 C) (v : Nat) (h0 : 0 < v) (hv : v < 65536) (B : Hp) : C 63 [.int .u64 v] B = some (.int .i64 (ctzN v : Nat), B) := by
  rw [i63 hC.toLibInt v (by omega) B, lowS_pos h0]

set_option maxRecDepth 10000 in
theorem loop27 (hC : Lib31 C) (B : Hp) {m : Nat → Nat} (hm : Bnd m) {a : Nat} (ha : a < 16) (st : St) (hst : an27.at_ (some 4) st = st27 B m (0, 2 ^ a)) :
    ∃ x st', loopC T an27 C lp27_0 st = some (x, st') ∧ x = .exit 0 ∧ ∃ ρ L, st' = ⟨ρ, L, [], B⟩ ∧ get ρ 6 = .int .u16 (grp m a : Nat) := by
  refine loop_rule (st27 B m) (fun x => Wrk m a x.1 x.2) (fun x => 16 - cntB x.1.testBit 16) _ ?_ (0, 2 ^ a) st hst (Wrk.first m ha)
  rintro ⟨out, work⟩ hI
  simp only at hI
  rcases Nat.eq_zero_or_pos work with rfl | h
  · right
    have g0 : ((0 : Nat) : Int) = 0 := rfl
    rw [← hI.done]
    simp only [st27, lp27_0, subC, atC, Tryd.f27, an27, g0, T4, T24, T39, T42, T66, T102, EL, List.replicate_succ, stepD, accs, accP, accW, simpleOp, isAl, isExt, flipD, D.fresh1, D.row, D.plain, D.plain.plainL, St.close, St.close1, St.borrow, retV, resV, resL, outCL, outC, outL, outD, wantedV, opV, An.mid, thawV, D.plainU, prune, envOf, get, put, eval, evalT, nz, argsV, capsV, ofV, binV, binV.aggV, unV, intV, eqOp, isConst, natV, optV, loadV, loadC, storeV, setC, St.at_, partV, partTy, indexAddrV, fieldAddrV, sliceV, sliceV.rowSl, sliceV.strSl, bounds, cutP, builtinV, lenV, maxL, maxV, appendV, St.elems, roomy, rowOf, rowS, isStr, esz, tdOf, convV, buildV, fillV, partsV, okParts, fillL, D.whole, D.demoteC, D.demote, demoteL, D.global, D.flat, D.leaf, D.cells, TI.agg, TD.rowish, callOpV, moveL, CC, keepB, St.borrowL, St.borrow, D.isLsl, adoptR, adoptC, adoptCL, adoptL, adopt, List.toArray, Array.toList, Nat.reduceEqDiff, Nat.reduceAdd, Nat.reduceSub, Nat.reduceMul, Nat.reduceLeDiff, Nat.reduceLT, reduceIte, reduceCtorEq, forall_const, imp_self, Int.reduceNeg, Int.reduceLT, Int.reduceLE, Int.reduceGT, Int.reduceGE, Int.reduceAdd, Int.reduceSub, Int.reduceMul, Int.reduceToNat, Int.reduceEq, ne_eq, eq_self]
    exact ⟨_, _, rfl, by simp, rfl, _, _, rfl, rfl⟩
  · left
    have g0 : ¬ (work : Int) = 0 := by omega
    have hi := ctz_under (n := 16) h hI.lw
    have hs := hI.step hm hi (ctz_bit work h).1
    refine ⟨(out ||| 2 ^ ctzN work, andN (work ||| m (ctzN work)) (out ||| 2 ^ ctzN work)), ?_, hs.1, hs.2⟩
    have hlw := hI.lw
    have w1 : IntKind.u64.wrap (work : Int) = work := wrap_u64 (by omega) (by omega)
    have c1 := c63 hC work h hI.lw
    have c2 := c66 hC (ctzN work) hi
    have n1 := nat0 (ctzN work)
    have b1 := u16_or hI.lo (pow16 hi)
    have g1 := nums_get (k := .u16) (m := m) hi
    have b2 := u16_or hI.lw (hm _ hi)
    have b3 := u16_andn (x := work ||| m (ctzN work)) (y := out ||| 2 ^ ctzN work) (Nat.or_lt_two_pow (n := 16) hI.lw (hm _ hi)) hs.1.lo
    simp only [st27, lp27_0, subC, atC, Tryd.f27, an27, g0, w1, c1, c2, n1, hi, b1, g1, b2, b3, AL, T4, T24, T39, T42, T66, T102, EL, List.replicate_succ, stepD, accs, accP, accW, simpleOp, isAl, isExt, flipD, D.fresh1, D.row, D.plain, D.plain.plainL, St.close, St.close1, St.borrow, retV, resV, resL, outCL, outC, outL, outD, wantedV, opV, An.mid, thawV, D.plainU, prune, envOf, get, put, eval, evalT, nz, argsV, capsV, ofV, binV, binV.aggV, unV, intV, eqOp, isConst, natV, optV, loadV, loadC, storeV, setC, St.at_, partV, partTy, indexAddrV, fieldAddrV, sliceV, sliceV.rowSl, sliceV.strSl, bounds, cutP, builtinV, lenV, maxL, maxV, appendV, St.elems, roomy, rowOf, rowS, isStr, esz, tdOf, convV, buildV, fillV, partsV, okParts, fillL, D.whole, D.demoteC, D.demote, demoteL, D.global, D.flat, D.leaf, D.cells, TI.agg, TD.rowish, callOpV, moveL, CC, keepB, St.borrowL, St.borrow, D.isLsl, adoptR, adoptC, adoptCL, adoptL, adopt, List.toArray, Array.toList, Nat.reduceEqDiff, Nat.reduceAdd, Nat.reduceSub, Nat.reduceMul, Nat.reduceLeDiff, Nat.reduceLT, reduceIte, reduceCtorEq, forall_const, imp_self, Int.reduceNeg, Int.reduceLT, Int.reduceLE, Int.reduceGT, Int.reduceGE, Int.reduceAdd, Int.reduceSub, Int.reduceMul, Int.reduceToNat, Int.reduceEq, ne_eq, eq_self]
    exact ⟨_, rfl, rfl⟩

set_option maxRecDepth 10000 in
theorem run27_f (hC : Lib31 C) {m : Nat → Nat} (hm : Bnd m) {a : Int} (h : (mayM m && plc a) = false) (B : Hp) : runV T C fi27 [mD m, .int .i64 a] B = some (.tuple [.int .u16 0, errD 1], B) := by
  rw [e_run _ _ _ rfl]
  have p1 := c69 hC a
  cases e1 : mayM m
  · have c1 := ck_f hC hm e1
    simp only [fi27, Tryd.f27, an27, c1, AL, T4, T24, T39, T42, T66, T102, EL, List.replicate_succ, stepD, accs, accP, accW, simpleOp, isAl, isExt, flipD, D.fresh1, D.row, D.plain, D.plain.plainL, St.close, St.close1, St.borrow, retV, resV, resL, outCL, outC, outL, outD, wantedV, opV, An.mid, thawV, D.plainU, prune, envOf, get, put, eval, evalT, nz, argsV, capsV, ofV, binV, binV.aggV, unV, intV, eqOp, isConst, natV, optV, loadV, loadC, storeV, setC, St.at_, partV, partTy, indexAddrV, fieldAddrV, sliceV, sliceV.rowSl, sliceV.strSl, bounds, cutP, builtinV, lenV, maxL, maxV, appendV, St.elems, roomy, rowOf, rowS, isStr, esz, tdOf, convV, buildV, fillV, partsV, okParts, fillL, D.whole, D.demoteC, D.demote, demoteL, D.global, D.flat, D.leaf, D.cells, TI.agg, TD.rowish, callOpV, moveL, CC, keepB, St.borrowL, St.borrow, D.isLsl, adoptR, adoptC, adoptCL, adoptL, adopt, List.toArray, Array.toList, Nat.reduceEqDiff, Nat.reduceAdd, Nat.reduceSub, Nat.reduceMul, Nat.reduceLeDiff, Nat.reduceLT, reduceIte, reduceCtorEq, forall_const, imp_self, Int.reduceNeg, Int.reduceLT, Int.reduceLE, Int.reduceGT, Int.reduceGE, Int.reduceAdd, Int.reduceSub, Int.reduceMul, Int.reduceToNat, Int.reduceEq, ne_eq, eq_self]
    rfl
  · have c1 := ck_t hC hm e1
    rw [e1, Bool.true_and] at h
    rw [h] at p1
    simp only [fi27, Tryd.f27, an27, c1, p1, AL, T4, T24, T39, T42, T66, T102, EL, List.replicate_succ, stepD, accs, accP, accW, simpleOp, isAl, isExt, flipD, D.fresh1, D.row, D.plain, D.plain.plainL, St.close, St.close1, St.borrow, retV, resV, resL, outCL, outC, outL, outD, wantedV, opV, An.mid, thawV, D.plainU, prune, envOf, get, put, eval, evalT, nz, argsV, capsV, ofV, binV, binV.aggV, unV, intV, eqOp, isConst, natV, optV, loadV, loadC, storeV, setC, St.at_, partV, partTy, indexAddrV, fieldAddrV, sliceV, sliceV.rowSl, sliceV.strSl, bounds, cutP, builtinV, lenV, maxL, maxV, appendV, St.elems, roomy, rowOf, rowS, isStr, esz, tdOf, convV, buildV, fillV, partsV, okParts, fillL, D.whole, D.demoteC, D.demote, demoteL, D.global, D.flat, D.leaf, D.cells, TI.agg, TD.rowish, callOpV, moveL, CC, keepB, St.borrowL, St.borrow, D.isLsl, adoptR, adoptC, adoptCL, adoptL, adopt, List.toArray, Array.toList, Nat.reduceEqDiff, Nat.reduceAdd, Nat.reduceSub, Nat.reduceMul, Nat.reduceLeDiff, Nat.reduceLT, reduceIte, reduceCtorEq, forall_const, imp_self, Int.reduceNeg, Int.reduceLT, Int.reduceLE, Int.reduceGT, Int.reduceGE, Int.reduceAdd, Int.reduceSub, Int.reduceMul, Int.reduceToNat, Int.reduceEq, ne_eq, eq_self]
    rfl

set_option maxRecDepth 10000 in
theorem run27_t (hC : Lib31 C) {m : Nat → Nat} (hm : Bnd m) {a : Nat} (ha : a < 16) (h : mayM m = true) (B : Hp) : runV T C fi27 [mD m, .int .i64 a] B = some (.tuple [.int .u16 (grp m a : Nat), .nili], B) := by
  rw [e_run _ _ _ rfl]
  have c1 := ck_t hC hm h
  have p1 := c69 hC a
  rw [plc_n ha] at p1
  have c2 := c66 hC a ha
  simp only [fi27, Tryd.f27, an27, c1, p1, c2, AL, T4, T24, T39, T42, T66, T102, EL, List.replicate_succ, stepD, accs, accP, accW, simpleOp, isAl, isExt, flipD, D.fresh1, D.row, D.plain, D.plain.plainL, St.close, St.close1, St.borrow, retV, resV, resL, outCL, outC, outL, outD, wantedV, opV, An.mid, thawV, D.plainU, prune, envOf, get, put, eval, evalT, nz, argsV, capsV, ofV, binV, binV.aggV, unV, intV, eqOp, isConst, natV, optV, loadV, loadC, storeV, setC, St.at_, partV, partTy, indexAddrV, fieldAddrV, sliceV, sliceV.rowSl, sliceV.strSl, bounds, cutP, builtinV, lenV, maxL, maxV, appendV, St.elems, roomy, rowOf, rowS, isStr, esz, tdOf, convV, buildV, fillV, partsV, okParts, fillL, D.whole, D.demoteC, D.demote, demoteL, D.global, D.flat, D.leaf, D.cells, TI.agg, TD.rowish, callOpV, moveL, CC, keepB, St.borrowL, St.borrow, D.isLsl, adoptR, adoptC, adoptCL, adoptL, adopt, List.toArray, Array.toList, Nat.reduceEqDiff, Nat.reduceAdd, Nat.reduceSub, Nat.reduceMul, Nat.reduceLeDiff, Nat.reduceLT, reduceIte, reduceCtorEq, forall_const, imp_self, Int.reduceNeg, Int.reduceLT, Int.reduceLE, Int.reduceGT, Int.reduceGE, Int.reduceAdd, Int.reduceSub, Int.reduceMul, Int.reduceToNat, Int.reduceEq, ne_eq, eq_self]
  refine' in_loop (c' := lp27_0) (fin T _ _ _) ?h rfl ?q
  case h =>
    refine loop27 hC B hm ha _ ?_
    simp only [an27, ren_map, toks_map, boxes_map, st27, AL, An.at_, tidyV, tidyW, tidyB, tidyT, sift, envBoxes, envToks, conToks, D.toks, D.tok1, toksL, D.boxes, D.box1, boxesL, memN, posN, renE, D.ren, D.ren1, renL, renB, St.content, St.boxOk, St.tokOk, trues, T4, T24, T39, T42, T66, T102, EL, List.replicate_succ, stepD, accs, accP, accW, simpleOp, isAl, isExt, flipD, D.fresh1, D.row, D.plain, D.plain.plainL, St.close, St.close1, St.borrow, retV, resV, resL, outCL, outC, outL, outD, wantedV, opV, An.mid, thawV, D.plainU, prune, envOf, get, put, eval, evalT, nz, argsV, capsV, ofV, binV, binV.aggV, unV, intV, eqOp, isConst, natV, optV, loadV, loadC, storeV, setC, St.at_, partV, partTy, indexAddrV, fieldAddrV, sliceV, sliceV.rowSl, sliceV.strSl, bounds, cutP, builtinV, lenV, maxL, maxV, appendV, St.elems, roomy, rowOf, rowS, isStr, esz, tdOf, convV, buildV, fillV, partsV, okParts, fillL, D.whole, D.demoteC, D.demote, demoteL, D.global, D.flat, D.leaf, D.cells, TI.agg, TD.rowish, callOpV, moveL, CC, keepB, St.borrowL, St.borrow, D.isLsl, adoptR, adoptC, adoptCL, adoptL, adopt, List.toArray, Array.toList, Nat.reduceEqDiff, Nat.reduceAdd, Nat.reduceSub, Nat.reduceMul, Nat.reduceLeDiff, Nat.reduceLT, reduceIte, reduceCtorEq, forall_const, imp_self, Int.reduceNeg, Int.reduceLT, Int.reduceLE, Int.reduceGT, Int.reduceGE, Int.reduceAdd, Int.reduceSub, Int.reduceMul, Int.reduceToNat, Int.reduceEq, ne_eq, eq_self]
    rfl
  rintro x st' ⟨rfl, ρ, L, rfl, h1⟩
  simp only [h1, T4, T24, T39, T42, T66, T102, EL, List.replicate_succ, stepD, accs, accP, accW, simpleOp, isAl, isExt, flipD, D.fresh1, D.row, D.plain, D.plain.plainL, St.close, St.close1, St.borrow, retV, resV, resL, outCL, outC, outL, outD, wantedV, opV, An.mid, thawV, D.plainU, prune, envOf, get, put, eval, evalT, nz, argsV, capsV, ofV, binV, binV.aggV, unV, intV, eqOp, isConst, natV, optV, loadV, loadC, storeV, setC, St.at_, partV, partTy, indexAddrV, fieldAddrV, sliceV, sliceV.rowSl, sliceV.strSl, bounds, cutP, builtinV, lenV, maxL, maxV, appendV, St.elems, roomy, rowOf, rowS, isStr, esz, tdOf, convV, buildV, fillV, partsV, okParts, fillL, D.whole, D.demoteC, D.demote, demoteL, D.global, D.flat, D.leaf, D.cells, TI.agg, TD.rowish, callOpV, moveL, CC, keepB, St.borrowL, St.borrow, D.isLsl, adoptR, adoptC, adoptCL, adoptL, adopt, List.toArray, Array.toList, Nat.reduceEqDiff, Nat.reduceAdd, Nat.reduceSub, Nat.reduceMul, Nat.reduceLeDiff, Nat.reduceLT, reduceIte, reduceCtorEq, forall_const, imp_self, Int.reduceNeg, Int.reduceLT, Int.reduceLE, Int.reduceGT, Int.reduceGE, Int.reduceAdd, Int.reduceSub, Int.reduceMul, Int.reduceToNat, Int.reduceEq, ne_eq, eq_self]

theorem gr_f (hC : Lib31 C) {m : Nat → Nat} (hm : Bnd m) {a : Int} (h : (mayM m && plc a) = false) (B : Hp) : C 27 [.agg (nums .u16 16 m), .int .i64 a] B = some (.tuple [.int .u16 0, .iface 102 (.int .i64 1)], B) := hC.f27 _ _ _ (run27_f hC hm h B)
theorem gr_t (hC : Lib31 C) {m : Nat → Nat} (hm : Bnd m) {a : Nat} (ha : a < 16) (h : mayM m = true) (B : Hp) : C 27 [.agg (nums .u16 16 m), .int .i64 a] B = some (.tuple [.int .u16 (grp m a : Nat), .nili], B) := hC.f27 _ _ _ (run27_t hC hm ha h B)

/-! ### Apart -/
def aptk (m : Nat → Nat) (s i : Nat) : Prop := ∀ q, q < 16 → s.testBit i = true → tb m i q = true → s.testBit q = true
def st36 (B : Hp) (m : Nat → Nat) (s : Nat) (k : Nat) : St := ⟨[(1, .int .u16 s), (10, mD m), (11, .int .i64 k)], [], [], B⟩

theorem andn_zero {x s : Nat} (hx : x < 65536) (hs : s < 65536) : ((andN x s : Nat) : Int) = 0 ↔ ∀ q, q < 16 → x.testBit q = true → s.testBit q = true := by
  rw [Int.natCast_eq_zero]
  constructor
  · intro h q hq h1
    have h2 := andN_bit (i := q) hx hs
    rw [h, Nat.zero_testBit, h1] at h2
    cases e : s.testBit q with
    | true => rfl
    | false => rw [e] at h2; cases h2
  · intro h
    refine bits_ext (n := 16) (Nat.lt_of_le_of_lt andN_le hx) (by decide) (fun q hq => ?_)
    rw [andN_bit hx hs, Nat.zero_testBit]
    cases e : x.testBit q with
    | false => rfl
    | true => rw [h q hq e]; rfl

set_option maxRecDepth 10000 in
theorem loop36 (hC : Lib31 C) (B : Hp) {m : Nat → Nat} (hm : Bnd m) {s : Nat} (hs : s < 65536) (st : St) (hst : an36.at_ (some 4) st = st36 B m s 0) :
    ∃ x st', loopC T an36 C lp36_0 st = some (x, st') ∧ ∃ ρ L, st' = ⟨ρ, L, [], B⟩ ∧ ((x = .exit 0 ∧ Apt m s) ∨ (x = .ret ∧ ¬ Apt m s ∧ get ρ 4 = .bool false)) := by
  refine loop_rule (st36 B m s) (fun k => k ≤ 16 ∧ ∀ i, i < k → aptk m s i) (fun k => 16 - k) _ ?_ 0 st hst ⟨by omega, fun i hi => by omega⟩
  rintro k ⟨hk, hI⟩
  rcases Nat.lt_or_ge k 16 with h | h
  · have g0 : (k : Int) < 16 := by omega
    have w1 : IntKind.i64.wrap ((k : Int) + 1) = ((k + 1 : Nat) : Int) := by rw [wrapI (by omega) (by omega)]; rfl
    have n1 := nat0 k
    have c1 := c66 hC k h
    have g1 := nums_get (k := .u16) (m := m) h
    have b1 := u16_and hs (pow16 h)
    have b2 := u16_andn (hm k h) hs
    have z1 := and_pow (x := s) (b := k)
    have nx : aptk m s k → ∀ i, i < k + 1 → aptk m s i := fun h2 i hi => by
      rcases Nat.lt_or_ge i k with h3 | h3
      · exact hI i h3
      · obtain rfl : i = k := by omega
        exact h2
    cases e1 : s.testBit k <;> rw [e1] at z1
    · left
      refine ⟨k + 1, ?_, ⟨by omega, nx (fun q hq h1 => by rw [e1] at h1; cases h1)⟩, by omega⟩
      simp only [st36, lp36_0, subC, atC, Tryd.f36, an36, g0, w1, n1, c1, h, g1, b1, b2, z1, AL, T3, T24, T39, T42, EL, List.replicate_succ, stepD, accs, accP, accW, simpleOp, isAl, isExt, flipD, D.fresh1, D.row, D.plain, D.plain.plainL, St.close, St.close1, St.borrow, retV, resV, resL, outCL, outC, outL, outD, wantedV, opV, An.mid, thawV, D.plainU, prune, envOf, get, put, eval, evalT, nz, argsV, capsV, ofV, binV, binV.aggV, unV, intV, eqOp, isConst, natV, optV, loadV, loadC, storeV, setC, St.at_, partV, partTy, indexAddrV, fieldAddrV, sliceV, sliceV.rowSl, sliceV.strSl, bounds, cutP, builtinV, lenV, maxL, maxV, appendV, St.elems, roomy, rowOf, rowS, isStr, esz, tdOf, convV, buildV, fillV, partsV, okParts, fillL, D.whole, D.demoteC, D.demote, demoteL, D.global, D.flat, D.leaf, D.cells, TI.agg, TD.rowish, callOpV, moveL, CC, keepB, St.borrowL, St.borrow, D.isLsl, adoptR, adoptC, adoptCL, adoptL, adopt, List.toArray, Array.toList, Nat.reduceEqDiff, Nat.reduceAdd, Nat.reduceSub, Nat.reduceMul, Nat.reduceLeDiff, Nat.reduceLT, reduceIte, reduceCtorEq, forall_const, imp_self, Int.reduceNeg, Int.reduceLT, Int.reduceLE, Int.reduceGT, Int.reduceGE, Int.reduceAdd, Int.reduceSub, Int.reduceMul, Int.reduceToNat, Int.reduceEq, ne_eq, eq_self]
      exact ⟨_, rfl, rfl⟩
    · by_cases e2 : ((andN (m k) s : Nat) : Int) = 0
      · left
        refine ⟨k + 1, ?_, ⟨by omega, nx (fun q hq h1 h2 => (andn_zero (hm k h) hs).1 e2 q hq h2)⟩, by omega⟩
        simp only [st36, lp36_0, subC, atC, Tryd.f36, an36, g0, w1, n1, c1, h, g1, b1, b2, z1, e2, AL, T3, T24, T39, T42, EL, List.replicate_succ, stepD, accs, accP, accW, simpleOp, isAl, isExt, flipD, D.fresh1, D.row, D.plain, D.plain.plainL, St.close, St.close1, St.borrow, retV, resV, resL, outCL, outC, outL, outD, wantedV, opV, An.mid, thawV, D.plainU, prune, envOf, get, put, eval, evalT, nz, argsV, capsV, ofV, binV, binV.aggV, unV, intV, eqOp, isConst, natV, optV, loadV, loadC, storeV, setC, St.at_, partV, partTy, indexAddrV, fieldAddrV, sliceV, sliceV.rowSl, sliceV.strSl, bounds, cutP, builtinV, lenV, maxL, maxV, appendV, St.elems, roomy, rowOf, rowS, isStr, esz, tdOf, convV, buildV, fillV, partsV, okParts, fillL, D.whole, D.demoteC, D.demote, demoteL, D.global, D.flat, D.leaf, D.cells, TI.agg, TD.rowish, callOpV, moveL, CC, keepB, St.borrowL, St.borrow, D.isLsl, adoptR, adoptC, adoptCL, adoptL, adopt, List.toArray, Array.toList, Nat.reduceEqDiff, Nat.reduceAdd, Nat.reduceSub, Nat.reduceMul, Nat.reduceLeDiff, Nat.reduceLT, reduceIte, reduceCtorEq, forall_const, imp_self, Int.reduceNeg, Int.reduceLT, Int.reduceLE, Int.reduceGT, Int.reduceGE, Int.reduceAdd, Int.reduceSub, Int.reduceMul, Int.reduceToNat, Int.reduceEq, ne_eq, eq_self]
        exact ⟨_, rfl, rfl⟩
      · right
        have hn : ¬ Apt m s := fun hA => e2 ((andn_zero (hm k h) hs).2 fun q hq h1 => hA k q h hq e1 h1)
        simp only [st36, lp36_0, subC, atC, Tryd.f36, an36, g0, w1, n1, c1, h, g1, b1, b2, z1, e2, AL, T3, T24, T39, T42, EL, List.replicate_succ, stepD, accs, accP, accW, simpleOp, isAl, isExt, flipD, D.fresh1, D.row, D.plain, D.plain.plainL, St.close, St.close1, St.borrow, retV, resV, resL, outCL, outC, outL, outD, wantedV, opV, An.mid, thawV, D.plainU, prune, envOf, get, put, eval, evalT, nz, argsV, capsV, ofV, binV, binV.aggV, unV, intV, eqOp, isConst, natV, optV, loadV, loadC, storeV, setC, St.at_, partV, partTy, indexAddrV, fieldAddrV, sliceV, sliceV.rowSl, sliceV.strSl, bounds, cutP, builtinV, lenV, maxL, maxV, appendV, St.elems, roomy, rowOf, rowS, isStr, esz, tdOf, convV, buildV, fillV, partsV, okParts, fillL, D.whole, D.demoteC, D.demote, demoteL, D.global, D.flat, D.leaf, D.cells, TI.agg, TD.rowish, callOpV, moveL, CC, keepB, St.borrowL, St.borrow, D.isLsl, adoptR, adoptC, adoptCL, adoptL, adopt, List.toArray, Array.toList, Nat.reduceEqDiff, Nat.reduceAdd, Nat.reduceSub, Nat.reduceMul, Nat.reduceLeDiff, Nat.reduceLT, reduceIte, reduceCtorEq, forall_const, imp_self, Int.reduceNeg, Int.reduceLT, Int.reduceLE, Int.reduceGT, Int.reduceGE, Int.reduceAdd, Int.reduceSub, Int.reduceMul, Int.reduceToNat, Int.reduceEq, ne_eq, eq_self]
        exact ⟨_, _, rfl, by simp, _, _, rfl, .inr ⟨rfl, hn, rfl⟩⟩
  · right
    obtain rfl : k = 16 := by omega
    have g0 : ¬ ((16 : Nat) : Int) < 16 := by omega
    simp only [st36, lp36_0, subC, atC, Tryd.f36, an36, g0, T3, T24, T39, T42, EL, List.replicate_succ, stepD, accs, accP, accW, simpleOp, isAl, isExt, flipD, D.fresh1, D.row, D.plain, D.plain.plainL, St.close, St.close1, St.borrow, retV, resV, resL, outCL, outC, outL, outD, wantedV, opV, An.mid, thawV, D.plainU, prune, envOf, get, put, eval, evalT, nz, argsV, capsV, ofV, binV, binV.aggV, unV, intV, eqOp, isConst, natV, optV, loadV, loadC, storeV, setC, St.at_, partV, partTy, indexAddrV, fieldAddrV, sliceV, sliceV.rowSl, sliceV.strSl, bounds, cutP, builtinV, lenV, maxL, maxV, appendV, St.elems, roomy, rowOf, rowS, isStr, esz, tdOf, convV, buildV, fillV, partsV, okParts, fillL, D.whole, D.demoteC, D.demote, demoteL, D.global, D.flat, D.leaf, D.cells, TI.agg, TD.rowish, callOpV, moveL, CC, keepB, St.borrowL, St.borrow, D.isLsl, adoptR, adoptC, adoptCL, adoptL, adopt, List.toArray, Array.toList, Nat.reduceEqDiff, Nat.reduceAdd, Nat.reduceSub, Nat.reduceMul, Nat.reduceLeDiff, Nat.reduceLT, reduceIte, reduceCtorEq, forall_const, imp_self, Int.reduceNeg, Int.reduceLT, Int.reduceLE, Int.reduceGT, Int.reduceGE, Int.reduceAdd, Int.reduceSub, Int.reduceMul, Int.reduceToNat, Int.reduceEq, ne_eq, eq_self]
    exact ⟨_, _, rfl, by simp, _, _, rfl, .inl ⟨rfl, fun p q hp hq h1 h2 => hI p hp q hq h1 h2⟩⟩

set_option maxRecDepth 10000 in
theorem run36 (hC : Lib31 C) {m : Nat → Nat} (hm : Bnd m) {s : Nat} (hs : s < 65536) (B : Hp) : runV T C fi36 [mD m, .int .u16 s] B = some (.bool (aptS m s), B) := by
  rw [e_run _ _ _ rfl]
  unfold aptS
  cases e1 : mayM m
  · have c1 := ck_f hC hm e1
    simp only [fi36, Tryd.f36, an36, c1, AL, T3, T24, T39, T42, EL, List.replicate_succ, stepD, accs, accP, accW, simpleOp, isAl, isExt, flipD, D.fresh1, D.row, D.plain, D.plain.plainL, St.close, St.close1, St.borrow, retV, resV, resL, outCL, outC, outL, outD, wantedV, opV, An.mid, thawV, D.plainU, prune, envOf, get, put, eval, evalT, nz, argsV, capsV, ofV, binV, binV.aggV, unV, intV, eqOp, isConst, natV, optV, loadV, loadC, storeV, setC, St.at_, partV, partTy, indexAddrV, fieldAddrV, sliceV, sliceV.rowSl, sliceV.strSl, bounds, cutP, builtinV, lenV, maxL, maxV, appendV, St.elems, roomy, rowOf, rowS, isStr, esz, tdOf, convV, buildV, fillV, partsV, okParts, fillL, D.whole, D.demoteC, D.demote, demoteL, D.global, D.flat, D.leaf, D.cells, TI.agg, TD.rowish, callOpV, moveL, CC, keepB, St.borrowL, St.borrow, D.isLsl, adoptR, adoptC, adoptCL, adoptL, adopt, List.toArray, Array.toList, Nat.reduceEqDiff, Nat.reduceAdd, Nat.reduceSub, Nat.reduceMul, Nat.reduceLeDiff, Nat.reduceLT, reduceIte, reduceCtorEq, forall_const, imp_self, Int.reduceNeg, Int.reduceLT, Int.reduceLE, Int.reduceGT, Int.reduceGE, Int.reduceAdd, Int.reduceSub, Int.reduceMul, Int.reduceToNat, Int.reduceEq, ne_eq, eq_self]
  · have c1 := ck_t hC hm e1
    simp only [fi36, Tryd.f36, an36, c1, AL, T3, T24, T39, T42, EL, List.replicate_succ, stepD, accs, accP, accW, simpleOp, isAl, isExt, flipD, D.fresh1, D.row, D.plain, D.plain.plainL, St.close, St.close1, St.borrow, retV, resV, resL, outCL, outC, outL, outD, wantedV, opV, An.mid, thawV, D.plainU, prune, envOf, get, put, eval, evalT, nz, argsV, capsV, ofV, binV, binV.aggV, unV, intV, eqOp, isConst, natV, optV, loadV, loadC, storeV, setC, St.at_, partV, partTy, indexAddrV, fieldAddrV, sliceV, sliceV.rowSl, sliceV.strSl, bounds, cutP, builtinV, lenV, maxL, maxV, appendV, St.elems, roomy, rowOf, rowS, isStr, esz, tdOf, convV, buildV, fillV, partsV, okParts, fillL, D.whole, D.demoteC, D.demote, demoteL, D.global, D.flat, D.leaf, D.cells, TI.agg, TD.rowish, callOpV, moveL, CC, keepB, St.borrowL, St.borrow, D.isLsl, adoptR, adoptC, adoptCL, adoptL, adopt, List.toArray, Array.toList, Nat.reduceEqDiff, Nat.reduceAdd, Nat.reduceSub, Nat.reduceMul, Nat.reduceLeDiff, Nat.reduceLT, reduceIte, reduceCtorEq, forall_const, imp_self, Int.reduceNeg, Int.reduceLT, Int.reduceLE, Int.reduceGT, Int.reduceGE, Int.reduceAdd, Int.reduceSub, Int.reduceMul, Int.reduceToNat, Int.reduceEq, ne_eq, eq_self]
    refine' in_loop (c' := lp36_0) (fin T _ _ _) ?h rfl ?q
    case h =>
      refine loop36 hC B hm hs _ ?_
      simp only [an36, ren_map, toks_map, boxes_map, st36, AL, An.at_, tidyV, tidyW, tidyB, tidyT, sift, envBoxes, envToks, conToks, D.toks, D.tok1, toksL, D.boxes, D.box1, boxesL, memN, posN, renE, D.ren, D.ren1, renL, renB, St.content, St.boxOk, St.tokOk, trues, T3, T24, T39, T42, EL, List.replicate_succ, stepD, accs, accP, accW, simpleOp, isAl, isExt, flipD, D.fresh1, D.row, D.plain, D.plain.plainL, St.close, St.close1, St.borrow, retV, resV, resL, outCL, outC, outL, outD, wantedV, opV, An.mid, thawV, D.plainU, prune, envOf, get, put, eval, evalT, nz, argsV, capsV, ofV, binV, binV.aggV, unV, intV, eqOp, isConst, natV, optV, loadV, loadC, storeV, setC, St.at_, partV, partTy, indexAddrV, fieldAddrV, sliceV, sliceV.rowSl, sliceV.strSl, bounds, cutP, builtinV, lenV, maxL, maxV, appendV, St.elems, roomy, rowOf, rowS, isStr, esz, tdOf, convV, buildV, fillV, partsV, okParts, fillL, D.whole, D.demoteC, D.demote, demoteL, D.global, D.flat, D.leaf, D.cells, TI.agg, TD.rowish, callOpV, moveL, CC, keepB, St.borrowL, St.borrow, D.isLsl, adoptR, adoptC, adoptCL, adoptL, adopt, List.toArray, Array.toList, Nat.reduceEqDiff, Nat.reduceAdd, Nat.reduceSub, Nat.reduceMul, Nat.reduceLeDiff, Nat.reduceLT, reduceIte, reduceCtorEq, forall_const, imp_self, Int.reduceNeg, Int.reduceLT, Int.reduceLE, Int.reduceGT, Int.reduceGE, Int.reduceAdd, Int.reduceSub, Int.reduceMul, Int.reduceToNat, Int.reduceEq, ne_eq, eq_self]
      rfl
    rintro x st' ⟨ρ, L, rfl, ⟨rfl, hx⟩ | ⟨rfl, hx, hg⟩⟩
    · simp only [hx, T3, T24, T39, T42, EL, List.replicate_succ, stepD, accs, accP, accW, simpleOp, isAl, isExt, flipD, D.fresh1, D.row, D.plain, D.plain.plainL, St.close, St.close1, St.borrow, retV, resV, resL, outCL, outC, outL, outD, wantedV, opV, An.mid, thawV, D.plainU, prune, envOf, get, put, eval, evalT, nz, argsV, capsV, ofV, binV, binV.aggV, unV, intV, eqOp, isConst, natV, optV, loadV, loadC, storeV, setC, St.at_, partV, partTy, indexAddrV, fieldAddrV, sliceV, sliceV.rowSl, sliceV.strSl, bounds, cutP, builtinV, lenV, maxL, maxV, appendV, St.elems, roomy, rowOf, rowS, isStr, esz, tdOf, convV, buildV, fillV, partsV, okParts, fillL, D.whole, D.demoteC, D.demote, demoteL, D.global, D.flat, D.leaf, D.cells, TI.agg, TD.rowish, callOpV, moveL, CC, keepB, St.borrowL, St.borrow, D.isLsl, adoptR, adoptC, adoptCL, adoptL, adopt, List.toArray, Array.toList, Nat.reduceEqDiff, Nat.reduceAdd, Nat.reduceSub, Nat.reduceMul, Nat.reduceLeDiff, Nat.reduceLT, reduceIte, reduceCtorEq, forall_const, imp_self, Int.reduceNeg, Int.reduceLT, Int.reduceLE, Int.reduceGT, Int.reduceGE, Int.reduceAdd, Int.reduceSub, Int.reduceMul, Int.reduceToNat, Int.reduceEq, ne_eq, eq_self]
    · simp only [hx, hg, T3, T24, T39, T42, EL, List.replicate_succ, stepD, accs, accP, accW, simpleOp, isAl, isExt, flipD, D.fresh1, D.row, D.plain, D.plain.plainL, St.close, St.close1, St.borrow, retV, resV, resL, outCL, outC, outL, outD, wantedV, opV, An.mid, thawV, D.plainU, prune, envOf, get, put, eval, evalT, nz, argsV, capsV, ofV, binV, binV.aggV, unV, intV, eqOp, isConst, natV, optV, loadV, loadC, storeV, setC, St.at_, partV, partTy, indexAddrV, fieldAddrV, sliceV, sliceV.rowSl, sliceV.strSl, bounds, cutP, builtinV, lenV, maxL, maxV, appendV, St.elems, roomy, rowOf, rowS, isStr, esz, tdOf, convV, buildV, fillV, partsV, okParts, fillL, D.whole, D.demoteC, D.demote, demoteL, D.global, D.flat, D.leaf, D.cells, TI.agg, TD.rowish, callOpV, moveL, CC, keepB, St.borrowL, St.borrow, D.isLsl, adoptR, adoptC, adoptCL, adoptL, adopt, List.toArray, Array.toList, Nat.reduceEqDiff, Nat.reduceAdd, Nat.reduceSub, Nat.reduceMul, Nat.reduceLeDiff, Nat.reduceLT, reduceIte, reduceCtorEq, forall_const, imp_self, Int.reduceNeg, Int.reduceLT, Int.reduceLE, Int.reduceGT, Int.reduceGE, Int.reduceAdd, Int.reduceSub, Int.reduceMul, Int.reduceToNat, Int.reduceEq, ne_eq, eq_self]
theorem c36 (hC : Lib31 C) {m : Nat → Nat} (hm : Bnd m) {s : Nat} (hs : s < 65536) (B : Hp) : C 36 [.agg (nums .u16 16 m), .int .u16 s] B = some (.bool (aptS m s), B) := hC.f36 _ _ _ (run36 hC hm hs B)

end Go.Proofs.YtbbbhalmlboapaaDoor.V
