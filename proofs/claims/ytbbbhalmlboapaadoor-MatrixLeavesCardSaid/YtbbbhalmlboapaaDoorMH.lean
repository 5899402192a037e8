/-
Layer 31: MatrixLeaves, MatrixParts.
-/
import Derived.Test.YtbbbhalmlboapaaDoorMG
namespace Go.Proofs.YtbbbhalmlboapaaDoor.V
open Go Go.RowKit
set_option linter.unusedSimpArgs false
set_option linter.unusedVariables false

/-! warren/warrenlaw31.MatrixLeaves -/
def an7 : An := ⟨fun | 9 => some [7, 8, 9, 10, 14] | 12 => some [7, 8, 9, 10, 14, 15] | _ => .none, fun _ => 0, fun _ => false, fun _ => .none⟩
noncomputable def fi7 : FI := ⟨3, 138, Tryd.f7.body.getD .skip, Tryd.f7.results.toList, an7, false, false⟩
theorem ok7 : FnOk Tryd.prog 7 fi7 := ⟨⟨Tryd.f7, Tryd.func7, by kernel_rfl, rfl, rfl, rfl⟩, by decide, by kernel_rfl, fun h => by cases h⟩
noncomputable def lp7_0 : Code := subC [1, 1, 1, 1, 1, 1, 0, 1, 0, 0] (Tryd.f7.body.getD .skip)   -- head 9 keep [7, 8, 9, 10, 14]
noncomputable def lp7_1 : Code := subC [1, 1, 1, 1, 1, 1, 0, 1, 0, 0, 1, 0, 0, 1, 0, 0] (Tryd.f7.body.getD .skip)   -- head 12 keep [7, 8, 9, 10, 14, 15]
/-! warren/warrenlaw31.MatrixParts -/
def an6 : An := ⟨fun | 3 => some [0, 3, 4] | 24 => some [3, 11] | 30 => some [3, 11, 12, 14] | _ => .none, fun _ => 0, fun _ => false, fun _ => .none⟩
noncomputable def fi6 : FI := ⟨1, 193, Tryd.f6.body.getD .skip, Tryd.f6.results.toList, an6, false, false⟩
theorem ok6 : FnOk Tryd.prog 6 fi6 := ⟨⟨Tryd.f6, Tryd.func6, by kernel_rfl, rfl, rfl, rfl⟩, by decide, by kernel_rfl, fun h => by cases h⟩
noncomputable def lp6_0 : Code := subC [1, 1, 0, 1, 0, 0] (Tryd.f6.body.getD .skip)   -- head 3 keep [0, 3, 4]
noncomputable def lp6_1 : Code := subC [1, 1, 1, 0, 1, 0, 0] (Tryd.f6.body.getD .skip)   -- head 24 keep [3, 11]
noncomputable def lp6_2 : Code := subC [1, 1, 1, 0, 1, 0, 0, 1, 0, 0, 1, 1, 1, 0, 0] (Tryd.f6.body.getD .skip)   -- head 30 keep [3, 11, 12, 14]

variable {C : Callees}

theorem tmod16 (x : Nat) : ((x : Nat) : Int).tmod 16 = ((x % 16 : Nat) : Int) := by rw [Int.tmod_eq_emod_of_nonneg (by omega)]; omega
theorem lve_twice {m : Nat → Nat} (hm : Bnd m) {i : Nat} (hi : i < 16) : ∀ k, k < 16 → lve (lve m i) i k = lve m i k :=
  mat_ext (lve_bnd (lve_bnd hm)) (lve_bnd hm) (fun p q hp hq => by
    rw [tb_lve (lve_bnd hm) hi hp, tb_lve hm hi hp]
    cases tb m p q <;> cases decide (p = i) <;> cases decide (q = i) <;> rfl)
theorem opn_had {m : Nat → Nat} (hm : Bnd m) (hM : May m) {i k : Nat} (hi : i < 16) (hk : k < 16) (hik : i ≠ k) (h : tb m i k = true) : ∀ p, p < 16 → opn m i k p = m p :=
  mat_ext (opn_bnd hm hi hk) hm (fun p q hp hq => by
    rw [tb_opn hik]
    have h2 : tb m k i = true := by rw [(hM k i hk hi).1]; exact h
    by_cases e1 : p = i ∧ q = k
    · obtain ⟨rfl, rfl⟩ := e1; rw [h]; rfl
    · by_cases e2 : p = k ∧ q = i
      · obtain ⟨rfl, rfl⟩ := e2; rw [h2]; rfl
      · have f1 : (decide (p = i) && decide (q = k)) = false := by rw [← Bool.decide_and]; exact decide_eq_false e1
        have f2 : (decide (p = k) && decide (q = i)) = false := by rw [← Bool.decide_and]; exact decide_eq_false e2
        rw [f1, f2]; simp)
theorem cls_opn {m : Nat → Nat} (hm : Bnd m) (hM : May m) {i k : Nat} (hi : i < 16) (hk : k < 16) (hik : i ≠ k) (h : tb m i k = false) : ∀ p, p < 16 → cls (opn m i k) i k p = m p :=
  mat_ext (cls_bnd (opn_bnd hm hi hk) hi hk) hm (fun p q hp hq => by
    rw [tb_cls (opn_bnd hm hi hk) hi hk hik, tb_opn hik]
    have h2 : tb m k i = false := by rw [(hM k i hk hi).1]; exact h
    by_cases e1 : p = i ∧ q = k
    · obtain ⟨rfl, rfl⟩ := e1; rw [h]; simp
    · by_cases e2 : p = k ∧ q = i
      · obtain ⟨rfl, rfl⟩ := e2; rw [h2]; simp
      · have f1 : (decide (p = i) && decide (q = k)) = false := by rw [← Bool.decide_and]; exact decide_eq_false e1
        have f2 : (decide (p = k) && decide (q = i)) = false := by rw [← Bool.decide_and]; exact decide_eq_false e2
        rw [f1, f2]; simp)

/-- Of places. -/
theorem sees_n {m : Nat → Nat} (hM : mayM m = true) {p q : Nat} (hp : p < 16) (hq : q < 16) : seesS m p q = (decide (p = q) || tb m p q) := by
  unfold seesS
  rw [hM, plc_n hp, plc_n hq, Int.toNat_natCast, Int.toNat_natCast, show decide ((p : Int) = q) = decide (p = q) from decide_eq_decide.2 (by omega)]
  rfl

/-! ### MatrixLeaves -/
abbrev llL (m : Nat → Nat) (i : Nat) : List (Option (List D)) := [some (nums .u16 16 m), some (nums .u16 16 (lve m i))]
def st7 (B : Hp) (m : Nat → Nat) (i k : Nat) (p : Nat) : St := ⟨[(7, .lptr 0 0), (8, .int .i64 i), (9, .int .i64 k), (10, .lptr 1 0), (14, .int .i64 p)], llL m i, [], B⟩
def st7_1 (B : Hp) (m : Nat → Nat) (i k p : Nat) (q : Nat) : St := ⟨[(7, .lptr 0 0), (8, .int .i64 i), (9, .int .i64 k), (10, .lptr 1 0), (14, .int .i64 p), (15, .int .i64 q)], llL m i, [], B⟩

set_option maxRecDepth 10000 in
set_option maxHeartbeats 2000000 in
theorem loop7_1 (hC : Known31 C) (B : Hp) {m : Nat → Nat} (hm : Bnd m) (hM : May m) {i k p : Nat} (hi : i < 16) (hp : p < 16) (st : St) (hst : an7.at_ (some 12) st = st7_1 B m i k p 0) :
    ∃ x st', loopC T an7 C lp7_1 st = some (x, st') ∧ x = .exit 2 ∧ ∃ ρ, st' = ⟨ρ, llL m i, [], B⟩ ∧ get ρ 7 = .lptr 0 0 ∧ get ρ 8 = .int .i64 i ∧ get ρ 9 = .int .i64 k ∧ get ρ 10 = .lptr 1 0 ∧ get ρ 14 = .int .i64 p := by
  have hL := hC.toLib31
  refine loop_rule (st7_1 B m i k p) (fun q => q ≤ 16) (fun q => 16 - q) _ ?_ 0 st hst (by omega)
  intro q hq
  rcases Nat.lt_or_ge q 16 with h | h
  · left
    refine ⟨q + 1, ?_, by omega, by omega⟩
    have g0 : (q : Int) < 16 := by omega
    have w1 : IntKind.i64.wrap ((q : Int) + 1) = ((q + 1 : Nat) : Int) := by rw [wrapI (by omega) (by omega)]; rfl
    have c1 := c31 hL hm p q
    have c2 := c31 hL (lve_bnd (a := i) hm) p q
    rw [sees_n (mayM_t.2 hM) hp h] at c1
    rw [sees_n (mayM_t.2 (may_lve hm hM hi)) hp h, tb_lve hm hi hp] at c2
    have f1 : ((p : Int) = i) = (p = i) := propext ⟨fun h => by omega, fun h => by omega⟩
    have f2 : ((q : Int) = i) = (q = i) := propext ⟨fun h => by omega, fun h => by omega⟩
    have f3 : ((p : Int) = q) = (p = q) := propext ⟨fun h => by omega, fun h => by omega⟩
    generalize tb m p q = t0 at c1 c2
    by_cases e3 : p = q
    · rw [decide_eq_true e3, Bool.true_or] at c1 c2
      rw [eq_true e3] at f3
      by_cases e1 : p = i
      · rw [eq_true e1] at f1
        simp only [st7_1, lp7_1, subC, atC, Tryd.f7, an7, g0, w1, c1, c2, f1, f2, f3, llL, AL, T3, T4, T5, T24, T39, T40, T42, EL, List.replicate_succ, stepD, accs, accP, accW, simpleOp, isAl, isExt, flipD, D.fresh1, D.row, D.plain, D.plain.plainL, St.close, St.close1, St.borrow, retV, resV, resL, outCL, outC, outL, outD, wantedV, opV, An.mid, thawV, D.plainU, prune, envOf, get, put, eval, evalT, nz, argsV, capsV, ofV, binV, binV.aggV, unV, intV, eqOp, isConst, natV, optV, loadV, loadC, storeV, setC, St.at_, partV, partTy, indexAddrV, fieldAddrV, sliceV, sliceV.rowSl, sliceV.strSl, bounds, cutP, builtinV, lenV, maxL, maxV, appendV, St.elems, roomy, rowOf, rowS, isStr, esz, tdOf, convV, buildV, fillV, partsV, okParts, fillL, D.whole, D.demoteC, D.demote, demoteL, D.global, D.flat, D.leaf, D.cells, TI.agg, TD.rowish, callOpV, moveL, CC, keepB, St.borrowL, St.borrow, D.isLsl, adoptR, adoptC, adoptCL, adoptL, adopt, List.toArray, Array.toList, Nat.reduceEqDiff, Nat.reduceAdd, Nat.reduceSub, Nat.reduceMul, Nat.reduceLeDiff, Nat.reduceLT, reduceIte, reduceCtorEq, forall_const, imp_self, Int.reduceNeg, Int.reduceLT, Int.reduceLE, Int.reduceGT, Int.reduceGE, Int.reduceAdd, Int.reduceSub, Int.reduceMul, Int.reduceToNat, Int.reduceEq, ne_eq, eq_self]
        exact ⟨_, rfl, rfl⟩
      · rw [eq_false e1] at f1
        have e2 : ¬ q = i := by omega
        rw [eq_false e2] at f2
        simp only [st7_1, lp7_1, subC, atC, Tryd.f7, an7, g0, w1, c1, c2, f1, f2, f3, llL, AL, T3, T4, T5, T24, T39, T40, T42, EL, List.replicate_succ, stepD, accs, accP, accW, simpleOp, isAl, isExt, flipD, D.fresh1, D.row, D.plain, D.plain.plainL, St.close, St.close1, St.borrow, retV, resV, resL, outCL, outC, outL, outD, wantedV, opV, An.mid, thawV, D.plainU, prune, envOf, get, put, eval, evalT, nz, argsV, capsV, ofV, binV, binV.aggV, unV, intV, eqOp, isConst, natV, optV, loadV, loadC, storeV, setC, St.at_, partV, partTy, indexAddrV, fieldAddrV, sliceV, sliceV.rowSl, sliceV.strSl, bounds, cutP, builtinV, lenV, maxL, maxV, appendV, St.elems, roomy, rowOf, rowS, isStr, esz, tdOf, convV, buildV, fillV, partsV, okParts, fillL, D.whole, D.demoteC, D.demote, demoteL, D.global, D.flat, D.leaf, D.cells, TI.agg, TD.rowish, callOpV, moveL, CC, keepB, St.borrowL, St.borrow, D.isLsl, adoptR, adoptC, adoptCL, adoptL, adopt, List.toArray, Array.toList, Nat.reduceEqDiff, Nat.reduceAdd, Nat.reduceSub, Nat.reduceMul, Nat.reduceLeDiff, Nat.reduceLT, reduceIte, reduceCtorEq, forall_const, imp_self, Int.reduceNeg, Int.reduceLT, Int.reduceLE, Int.reduceGT, Int.reduceGE, Int.reduceAdd, Int.reduceSub, Int.reduceMul, Int.reduceToNat, Int.reduceEq, ne_eq, eq_self]
        exact ⟨_, rfl, rfl⟩
    · rw [decide_eq_false e3, Bool.false_or] at c1 c2
      rw [eq_false e3] at f3
      cases t0
      · simp only [st7_1, lp7_1, subC, atC, Tryd.f7, an7, g0, w1, c1, c2, f1, f2, f3, llL, AL, T3, T4, T5, T24, T39, T40, T42, EL, List.replicate_succ, stepD, accs, accP, accW, simpleOp, isAl, isExt, flipD, D.fresh1, D.row, D.plain, D.plain.plainL, St.close, St.close1, St.borrow, retV, resV, resL, outCL, outC, outL, outD, wantedV, opV, An.mid, thawV, D.plainU, prune, envOf, get, put, eval, evalT, nz, argsV, capsV, ofV, binV, binV.aggV, unV, intV, eqOp, isConst, natV, optV, loadV, loadC, storeV, setC, St.at_, partV, partTy, indexAddrV, fieldAddrV, sliceV, sliceV.rowSl, sliceV.strSl, bounds, cutP, builtinV, lenV, maxL, maxV, appendV, St.elems, roomy, rowOf, rowS, isStr, esz, tdOf, convV, buildV, fillV, partsV, okParts, fillL, D.whole, D.demoteC, D.demote, demoteL, D.global, D.flat, D.leaf, D.cells, TI.agg, TD.rowish, callOpV, moveL, CC, keepB, St.borrowL, St.borrow, D.isLsl, adoptR, adoptC, adoptCL, adoptL, adopt, List.toArray, Array.toList, Nat.reduceEqDiff, Nat.reduceAdd, Nat.reduceSub, Nat.reduceMul, Nat.reduceLeDiff, Nat.reduceLT, reduceIte, reduceCtorEq, forall_const, imp_self, Int.reduceNeg, Int.reduceLT, Int.reduceLE, Int.reduceGT, Int.reduceGE, Int.reduceAdd, Int.reduceSub, Int.reduceMul, Int.reduceToNat, Int.reduceEq, ne_eq, eq_self]
        exact ⟨_, rfl, rfl⟩
      · by_cases e1 : p = i
        · rw [eq_true e1] at f1
          rw [decide_eq_true e1] at c2
          simp only [st7_1, lp7_1, subC, atC, Tryd.f7, an7, g0, w1, c1, c2, f1, f2, f3, llL, AL, T3, T4, T5, T24, T39, T40, T42, EL, List.replicate_succ, stepD, accs, accP, accW, simpleOp, isAl, isExt, flipD, D.fresh1, D.row, D.plain, D.plain.plainL, St.close, St.close1, St.borrow, retV, resV, resL, outCL, outC, outL, outD, wantedV, opV, An.mid, thawV, D.plainU, prune, envOf, get, put, eval, evalT, nz, argsV, capsV, ofV, binV, binV.aggV, unV, intV, eqOp, isConst, natV, optV, loadV, loadC, storeV, setC, St.at_, partV, partTy, indexAddrV, fieldAddrV, sliceV, sliceV.rowSl, sliceV.strSl, bounds, cutP, builtinV, lenV, maxL, maxV, appendV, St.elems, roomy, rowOf, rowS, isStr, esz, tdOf, convV, buildV, fillV, partsV, okParts, fillL, D.whole, D.demoteC, D.demote, demoteL, D.global, D.flat, D.leaf, D.cells, TI.agg, TD.rowish, callOpV, moveL, CC, keepB, St.borrowL, St.borrow, D.isLsl, adoptR, adoptC, adoptCL, adoptL, adopt, List.toArray, Array.toList, Nat.reduceEqDiff, Nat.reduceAdd, Nat.reduceSub, Nat.reduceMul, Nat.reduceLeDiff, Nat.reduceLT, reduceIte, reduceCtorEq, forall_const, imp_self, Int.reduceNeg, Int.reduceLT, Int.reduceLE, Int.reduceGT, Int.reduceGE, Int.reduceAdd, Int.reduceSub, Int.reduceMul, Int.reduceToNat, Int.reduceEq, ne_eq, eq_self]
          exact ⟨_, rfl, rfl⟩
        · rw [eq_false e1] at f1
          rw [decide_eq_false e1] at c2
          by_cases e2 : q = i
          · rw [eq_true e2] at f2
            rw [decide_eq_true e2] at c2
            simp only [st7_1, lp7_1, subC, atC, Tryd.f7, an7, g0, w1, c1, c2, f1, f2, f3, llL, AL, T3, T4, T5, T24, T39, T40, T42, EL, List.replicate_succ, stepD, accs, accP, accW, simpleOp, isAl, isExt, flipD, D.fresh1, D.row, D.plain, D.plain.plainL, St.close, St.close1, St.borrow, retV, resV, resL, outCL, outC, outL, outD, wantedV, opV, An.mid, thawV, D.plainU, prune, envOf, get, put, eval, evalT, nz, argsV, capsV, ofV, binV, binV.aggV, unV, intV, eqOp, isConst, natV, optV, loadV, loadC, storeV, setC, St.at_, partV, partTy, indexAddrV, fieldAddrV, sliceV, sliceV.rowSl, sliceV.strSl, bounds, cutP, builtinV, lenV, maxL, maxV, appendV, St.elems, roomy, rowOf, rowS, isStr, esz, tdOf, convV, buildV, fillV, partsV, okParts, fillL, D.whole, D.demoteC, D.demote, demoteL, D.global, D.flat, D.leaf, D.cells, TI.agg, TD.rowish, callOpV, moveL, CC, keepB, St.borrowL, St.borrow, D.isLsl, adoptR, adoptC, adoptCL, adoptL, adopt, List.toArray, Array.toList, Nat.reduceEqDiff, Nat.reduceAdd, Nat.reduceSub, Nat.reduceMul, Nat.reduceLeDiff, Nat.reduceLT, reduceIte, reduceCtorEq, forall_const, imp_self, Int.reduceNeg, Int.reduceLT, Int.reduceLE, Int.reduceGT, Int.reduceGE, Int.reduceAdd, Int.reduceSub, Int.reduceMul, Int.reduceToNat, Int.reduceEq, ne_eq, eq_self]
            exact ⟨_, rfl, rfl⟩
          · rw [eq_false e2] at f2
            rw [decide_eq_false e2] at c2
            simp only [st7_1, lp7_1, subC, atC, Tryd.f7, an7, g0, w1, c1, c2, f1, f2, f3, llL, AL, T3, T4, T5, T24, T39, T40, T42, EL, List.replicate_succ, stepD, accs, accP, accW, simpleOp, isAl, isExt, flipD, D.fresh1, D.row, D.plain, D.plain.plainL, St.close, St.close1, St.borrow, retV, resV, resL, outCL, outC, outL, outD, wantedV, opV, An.mid, thawV, D.plainU, prune, envOf, get, put, eval, evalT, nz, argsV, capsV, ofV, binV, binV.aggV, unV, intV, eqOp, isConst, natV, optV, loadV, loadC, storeV, setC, St.at_, partV, partTy, indexAddrV, fieldAddrV, sliceV, sliceV.rowSl, sliceV.strSl, bounds, cutP, builtinV, lenV, maxL, maxV, appendV, St.elems, roomy, rowOf, rowS, isStr, esz, tdOf, convV, buildV, fillV, partsV, okParts, fillL, D.whole, D.demoteC, D.demote, demoteL, D.global, D.flat, D.leaf, D.cells, TI.agg, TD.rowish, callOpV, moveL, CC, keepB, St.borrowL, St.borrow, D.isLsl, adoptR, adoptC, adoptCL, adoptL, adopt, List.toArray, Array.toList, Nat.reduceEqDiff, Nat.reduceAdd, Nat.reduceSub, Nat.reduceMul, Nat.reduceLeDiff, Nat.reduceLT, reduceIte, reduceCtorEq, forall_const, imp_self, Int.reduceNeg, Int.reduceLT, Int.reduceLE, Int.reduceGT, Int.reduceGE, Int.reduceAdd, Int.reduceSub, Int.reduceMul, Int.reduceToNat, Int.reduceEq, ne_eq, eq_self]
            exact ⟨_, rfl, rfl⟩
  · right
    obtain rfl : q = 16 := by omega
    have g0 : ¬ ((16 : Nat) : Int) < 16 := by omega
    simp only [st7_1, lp7_1, subC, atC, Tryd.f7, an7, g0, T3, T4, T5, T24, T39, T40, T42, EL, List.replicate_succ, stepD, accs, accP, accW, simpleOp, isAl, isExt, flipD, D.fresh1, D.row, D.plain, D.plain.plainL, St.close, St.close1, St.borrow, retV, resV, resL, outCL, outC, outL, outD, wantedV, opV, An.mid, thawV, D.plainU, prune, envOf, get, put, eval, evalT, nz, argsV, capsV, ofV, binV, binV.aggV, unV, intV, eqOp, isConst, natV, optV, loadV, loadC, storeV, setC, St.at_, partV, partTy, indexAddrV, fieldAddrV, sliceV, sliceV.rowSl, sliceV.strSl, bounds, cutP, builtinV, lenV, maxL, maxV, appendV, St.elems, roomy, rowOf, rowS, isStr, esz, tdOf, convV, buildV, fillV, partsV, okParts, fillL, D.whole, D.demoteC, D.demote, demoteL, D.global, D.flat, D.leaf, D.cells, TI.agg, TD.rowish, callOpV, moveL, CC, keepB, St.borrowL, St.borrow, D.isLsl, adoptR, adoptC, adoptCL, adoptL, adopt, List.toArray, Array.toList, Nat.reduceEqDiff, Nat.reduceAdd, Nat.reduceSub, Nat.reduceMul, Nat.reduceLeDiff, Nat.reduceLT, reduceIte, reduceCtorEq, forall_const, imp_self, Int.reduceNeg, Int.reduceLT, Int.reduceLE, Int.reduceGT, Int.reduceGE, Int.reduceAdd, Int.reduceSub, Int.reduceMul, Int.reduceToNat, Int.reduceEq, ne_eq, eq_self]
    exact ⟨_, _, rfl, by simp, rfl, _, rfl, rfl, rfl, rfl, rfl, rfl⟩

set_option maxRecDepth 10000 in
set_option maxHeartbeats 1000000 in
theorem loop7 (hC : Known31 C) (B : Hp) {m : Nat → Nat} (hm : Bnd m) (hM : May m) {i k : Nat} (hi : i < 16) (st : St) (hst : an7.at_ (some 9) st = st7 B m i k 0) :
    ∃ x st', loopC T an7 C lp7_0 st = some (x, st') ∧ x = .exit 0 ∧ ∃ ρ, st' = ⟨ρ, llL m i, [], B⟩ ∧ get ρ 7 = .lptr 0 0 ∧ get ρ 8 = .int .i64 i ∧ get ρ 9 = .int .i64 k := by
  refine loop_rule (st7 B m i k) (fun p => p ≤ 16) (fun p => 16 - p) _ ?_ 0 st hst (by omega)
  intro p hp
  rcases Nat.lt_or_ge p 16 with h | h
  · left
    refine ⟨p + 1, ?_, by omega, by omega⟩
    have g0 : (p : Int) < 16 := by omega
    have w1 : IntKind.i64.wrap ((p : Int) + 1) = ((p + 1 : Nat) : Int) := by rw [wrapI (by omega) (by omega)]; rfl
    simp only [st7, lp7_0, subC, atC, Tryd.f7, an7, g0, T3, T4, T5, T24, T39, T40, T42, EL, List.replicate_succ, stepD, accs, accP, accW, simpleOp, isAl, isExt, flipD, D.fresh1, D.row, D.plain, D.plain.plainL, St.close, St.close1, St.borrow, retV, resV, resL, outCL, outC, outL, outD, wantedV, opV, An.mid, thawV, D.plainU, prune, envOf, get, put, eval, evalT, nz, argsV, capsV, ofV, binV, binV.aggV, unV, intV, eqOp, isConst, natV, optV, loadV, loadC, storeV, setC, St.at_, partV, partTy, indexAddrV, fieldAddrV, sliceV, sliceV.rowSl, sliceV.strSl, bounds, cutP, builtinV, lenV, maxL, maxV, appendV, St.elems, roomy, rowOf, rowS, isStr, esz, tdOf, convV, buildV, fillV, partsV, okParts, fillL, D.whole, D.demoteC, D.demote, demoteL, D.global, D.flat, D.leaf, D.cells, TI.agg, TD.rowish, callOpV, moveL, CC, keepB, St.borrowL, St.borrow, D.isLsl, adoptR, adoptC, adoptCL, adoptL, adopt, List.toArray, Array.toList, Nat.reduceEqDiff, Nat.reduceAdd, Nat.reduceSub, Nat.reduceMul, Nat.reduceLeDiff, Nat.reduceLT, reduceIte, reduceCtorEq, forall_const, imp_self, Int.reduceNeg, Int.reduceLT, Int.reduceLE, Int.reduceGT, Int.reduceGE, Int.reduceAdd, Int.reduceSub, Int.reduceMul, Int.reduceToNat, Int.reduceEq, ne_eq, eq_self]
    generalize hr : loopC T _ C _ _ = r
    obtain ⟨x, st', rfl, hx⟩ := nest hr (loop7_1 hC B hm hM (i := i) (k := k) (p := p) hi h _ (by
      clear hr
      simp only [an7, ren_map, toks_map, boxes_map, st7_1, llL, AL, An.at_, tidyV, tidyW, tidyB, tidyT, sift, envBoxes, envToks, conToks, D.toks, D.tok1, toksL, D.boxes, D.box1, boxesL, memN, posN, renE, D.ren, D.ren1, renL, renB, St.content, St.boxOk, St.tokOk, trues, T3, T4, T5, T24, T39, T40, T42, EL, List.replicate_succ, stepD, accs, accP, accW, simpleOp, isAl, isExt, flipD, D.fresh1, D.row, D.plain, D.plain.plainL, St.close, St.close1, St.borrow, retV, resV, resL, outCL, outC, outL, outD, wantedV, opV, An.mid, thawV, D.plainU, prune, envOf, get, put, eval, evalT, nz, argsV, capsV, ofV, binV, binV.aggV, unV, intV, eqOp, isConst, natV, optV, loadV, loadC, storeV, setC, St.at_, partV, partTy, indexAddrV, fieldAddrV, sliceV, sliceV.rowSl, sliceV.strSl, bounds, cutP, builtinV, lenV, maxL, maxV, appendV, St.elems, roomy, rowOf, rowS, isStr, esz, tdOf, convV, buildV, fillV, partsV, okParts, fillL, D.whole, D.demoteC, D.demote, demoteL, D.global, D.flat, D.leaf, D.cells, TI.agg, TD.rowish, callOpV, moveL, CC, keepB, St.borrowL, St.borrow, D.isLsl, adoptR, adoptC, adoptCL, adoptL, adopt, List.toArray, Array.toList, Nat.reduceEqDiff, Nat.reduceAdd, Nat.reduceSub, Nat.reduceMul, Nat.reduceLeDiff, Nat.reduceLT, reduceIte, reduceCtorEq, forall_const, imp_self, Int.reduceNeg, Int.reduceLT, Int.reduceLE, Int.reduceGT, Int.reduceGE, Int.reduceAdd, Int.reduceSub, Int.reduceMul, Int.reduceToNat, Int.reduceEq, ne_eq, eq_self]
      rfl)) rfl
    clear hr
    obtain ⟨rfl, ρ, rfl, h1, h2, h3, h4, h5⟩ := hx
    simp only [h1, h2, h3, h4, h5, w1, T3, T4, T5, T24, T39, T40, T42, EL, List.replicate_succ, stepD, accs, accP, accW, simpleOp, isAl, isExt, flipD, D.fresh1, D.row, D.plain, D.plain.plainL, St.close, St.close1, St.borrow, retV, resV, resL, outCL, outC, outL, outD, wantedV, opV, An.mid, thawV, D.plainU, prune, envOf, get, put, eval, evalT, nz, argsV, capsV, ofV, binV, binV.aggV, unV, intV, eqOp, isConst, natV, optV, loadV, loadC, storeV, setC, St.at_, partV, partTy, indexAddrV, fieldAddrV, sliceV, sliceV.rowSl, sliceV.strSl, bounds, cutP, builtinV, lenV, maxL, maxV, appendV, St.elems, roomy, rowOf, rowS, isStr, esz, tdOf, convV, buildV, fillV, partsV, okParts, fillL, D.whole, D.demoteC, D.demote, demoteL, D.global, D.flat, D.leaf, D.cells, TI.agg, TD.rowish, callOpV, moveL, CC, keepB, St.borrowL, St.borrow, D.isLsl, adoptR, adoptC, adoptCL, adoptL, adopt, List.toArray, Array.toList, Nat.reduceEqDiff, Nat.reduceAdd, Nat.reduceSub, Nat.reduceMul, Nat.reduceLeDiff, Nat.reduceLT, reduceIte, reduceCtorEq, forall_const, imp_self, Int.reduceNeg, Int.reduceLT, Int.reduceLE, Int.reduceGT, Int.reduceGE, Int.reduceAdd, Int.reduceSub, Int.reduceMul, Int.reduceToNat, Int.reduceEq, ne_eq, eq_self]
    refine ⟨_, rfl, ?_⟩
    show an7.at_ (some 9) _ = _
    simp only [an7, ren_map, toks_map, boxes_map, st7, llL, h1, h2, h3, h4, h5, AL, An.at_, tidyV, tidyW, tidyB, tidyT, sift, envBoxes, envToks, conToks, D.toks, D.tok1, toksL, D.boxes, D.box1, boxesL, memN, posN, renE, D.ren, D.ren1, renL, renB, St.content, St.boxOk, St.tokOk, trues, T3, T4, T5, T24, T39, T40, T42, EL, List.replicate_succ, stepD, accs, accP, accW, simpleOp, isAl, isExt, flipD, D.fresh1, D.row, D.plain, D.plain.plainL, St.close, St.close1, St.borrow, retV, resV, resL, outCL, outC, outL, outD, wantedV, opV, An.mid, thawV, D.plainU, prune, envOf, get, put, eval, evalT, nz, argsV, capsV, ofV, binV, binV.aggV, unV, intV, eqOp, isConst, natV, optV, loadV, loadC, storeV, setC, St.at_, partV, partTy, indexAddrV, fieldAddrV, sliceV, sliceV.rowSl, sliceV.strSl, bounds, cutP, builtinV, lenV, maxL, maxV, appendV, St.elems, roomy, rowOf, rowS, isStr, esz, tdOf, convV, buildV, fillV, partsV, okParts, fillL, D.whole, D.demoteC, D.demote, demoteL, D.global, D.flat, D.leaf, D.cells, TI.agg, TD.rowish, callOpV, moveL, CC, keepB, St.borrowL, St.borrow, D.isLsl, adoptR, adoptC, adoptCL, adoptL, adopt, List.toArray, Array.toList, Nat.reduceEqDiff, Nat.reduceAdd, Nat.reduceSub, Nat.reduceMul, Nat.reduceLeDiff, Nat.reduceLT, reduceIte, reduceCtorEq, forall_const, imp_self, Int.reduceNeg, Int.reduceLT, Int.reduceLE, Int.reduceGT, Int.reduceGE, Int.reduceAdd, Int.reduceSub, Int.reduceMul, Int.reduceToNat, Int.reduceEq, ne_eq, eq_self]
  · right
    obtain rfl : p = 16 := by omega
    have g0 : ¬ ((16 : Nat) : Int) < 16 := by omega
    simp only [st7, lp7_0, subC, atC, Tryd.f7, an7, g0, T3, T4, T5, T24, T39, T40, T42, EL, List.replicate_succ, stepD, accs, accP, accW, simpleOp, isAl, isExt, flipD, D.fresh1, D.row, D.plain, D.plain.plainL, St.close, St.close1, St.borrow, retV, resV, resL, outCL, outC, outL, outD, wantedV, opV, An.mid, thawV, D.plainU, prune, envOf, get, put, eval, evalT, nz, argsV, capsV, ofV, binV, binV.aggV, unV, intV, eqOp, isConst, natV, optV, loadV, loadC, storeV, setC, St.at_, partV, partTy, indexAddrV, fieldAddrV, sliceV, sliceV.rowSl, sliceV.strSl, bounds, cutP, builtinV, lenV, maxL, maxV, appendV, St.elems, roomy, rowOf, rowS, isStr, esz, tdOf, convV, buildV, fillV, partsV, okParts, fillL, D.whole, D.demoteC, D.demote, demoteL, D.global, D.flat, D.leaf, D.cells, TI.agg, TD.rowish, callOpV, moveL, CC, keepB, St.borrowL, St.borrow, D.isLsl, adoptR, adoptC, adoptCL, adoptL, adopt, List.toArray, Array.toList, Nat.reduceEqDiff, Nat.reduceAdd, Nat.reduceSub, Nat.reduceMul, Nat.reduceLeDiff, Nat.reduceLT, reduceIte, reduceCtorEq, forall_const, imp_self, Int.reduceNeg, Int.reduceLT, Int.reduceLE, Int.reduceGT, Int.reduceGE, Int.reduceAdd, Int.reduceSub, Int.reduceMul, Int.reduceToNat, Int.reduceEq, ne_eq, eq_self]
    exact ⟨_, _, rfl, by simp, rfl, _, rfl, rfl, rfl, rfl⟩

set_option maxRecDepth 10000 in
set_option maxHeartbeats 2000000 in
theorem run7 (hC : Known31 C) (m : Nat → Nat) (hm : Bnd m) (a b : Nat) (ha : a < 256) (hb : b < 256) (B : Hp) : runV T C fi7 [mD m, .int .u8 a, .int .u8 b] B = some (.bool true, B) := by
  rw [e_run _ _ _ rfl]
  have hL := hC.toLib31
  have e4 := c37 hC
  have t1 := tmod16 a
  have t2 := tmod16 b
  have w1 : IntKind.i64.wrap ((a % 16 : Nat) : Int) = ((a % 16 : Nat) : Int) := wrapI (by omega) (by omega)
  have w2 : IntKind.i64.wrap ((b % 16 : Nat) : Int) = ((b % 16 : Nat) : Int) := wrapI (by omega) (by omega)
  have hi : a % 16 < 16 := by omega
  have hk : b % 16 < 16 := by omega
  generalize a % 16 = i at *
  generalize b % 16 = k at *
  cases hM : mayM m
  · have c1 := ck_f hL hm hM
    simp only [fi7, Tryd.f7, an7, e4, t1, t2, w1, w2, c1, AL, T3, T4, T5, T24, T39, T40, T42, EL, List.replicate_succ, stepD, accs, accP, accW, simpleOp, isAl, isExt, flipD, D.fresh1, D.row, D.plain, D.plain.plainL, St.close, St.close1, St.borrow, retV, resV, resL, outCL, outC, outL, outD, wantedV, opV, An.mid, thawV, D.plainU, prune, envOf, get, put, eval, evalT, nz, argsV, capsV, ofV, binV, binV.aggV, unV, intV, eqOp, isConst, natV, optV, loadV, loadC, storeV, St.at_, partV, partTy, indexAddrV, fieldAddrV, sliceV, sliceV.rowSl, sliceV.strSl, bounds, cutP, builtinV, lenV, maxL, maxV, appendV, St.elems, roomy, rowOf, rowS, isStr, esz, tdOf, convV, buildV, fillV, partsV, okParts, fillL, D.whole, D.demoteC, D.demote, demoteL, D.global, D.flat, D.leaf, D.cells, TI.agg, TD.rowish, callOpV, moveL, CC, keepB, St.borrowL, St.borrow, D.isLsl, adoptR, adoptC, adoptCL, adoptL, adopt, List.toArray, Array.toList, Nat.reduceEqDiff, Nat.reduceAdd, Nat.reduceSub, Nat.reduceMul, Nat.reduceLeDiff, Nat.reduceLT, reduceIte, reduceCtorEq, forall_const, imp_self, Int.reduceNeg, Int.reduceLT, Int.reduceLE, Int.reduceGT, Int.reduceGE, Int.reduceAdd, Int.reduceSub, Int.reduceMul, Int.reduceToNat, Int.reduceEq, ne_eq, eq_self]
  · have c1 := ck_t hL hm hM
    have hM' := mayM_t.1 hM
    have c2 := lv_t hL hm hi hM
    have c3 := lv_t hL (lve_bnd (a := i) hm) hi (mayM_t.2 (may_lve hm hM' hi))
    have q1 := eqM (lve_twice hm hi)
    simp only [fi7, Tryd.f7, an7, e4, t1, t2, w1, w2, c1, c2, c3, q1, AL, T3, T4, T5, T24, T39, T40, T42, EL, List.replicate_succ, stepD, accs, accP, accW, simpleOp, isAl, isExt, flipD, D.fresh1, D.row, D.plain, D.plain.plainL, St.close, St.close1, St.borrow, retV, resV, resL, outCL, outC, outL, outD, wantedV, opV, An.mid, thawV, D.plainU, prune, envOf, get, put, eval, evalT, nz, argsV, capsV, ofV, binV, binV.aggV, unV, intV, eqOp, isConst, natV, optV, loadV, loadC, storeV, St.at_, partV, partTy, indexAddrV, fieldAddrV, sliceV, sliceV.rowSl, sliceV.strSl, bounds, cutP, builtinV, lenV, maxL, maxV, appendV, St.elems, roomy, rowOf, rowS, isStr, esz, tdOf, convV, buildV, fillV, partsV, okParts, fillL, D.whole, D.demoteC, D.demote, demoteL, D.global, D.flat, D.leaf, D.cells, TI.agg, TD.rowish, callOpV, moveL, CC, keepB, St.borrowL, St.borrow, D.isLsl, adoptR, adoptC, adoptCL, adoptL, adopt, List.toArray, Array.toList, Nat.reduceEqDiff, Nat.reduceAdd, Nat.reduceSub, Nat.reduceMul, Nat.reduceLeDiff, Nat.reduceLT, reduceIte, reduceCtorEq, forall_const, imp_self, Int.reduceNeg, Int.reduceLT, Int.reduceLE, Int.reduceGT, Int.reduceGE, Int.reduceAdd, Int.reduceSub, Int.reduceMul, Int.reduceToNat, Int.reduceEq, ne_eq, eq_self]
    refine' in_loop (c' := lp7_0) (fin T _ _ _) ?h rfl ?q
    case h =>
      refine loop7 hC B hm hM' (i := i) (k := k) hi _ ?_
      simp only [an7, ren_map, toks_map, boxes_map, st7, llL, AL, An.at_, tidyV, tidyW, tidyB, tidyT, sift, envBoxes, envToks, conToks, D.toks, D.tok1, toksL, D.boxes, D.box1, boxesL, memN, posN, renE, D.ren, D.ren1, renL, renB, St.content, St.boxOk, St.tokOk, trues, T3, T4, T5, T24, T39, T40, T42, EL, List.replicate_succ, stepD, accs, accP, accW, simpleOp, isAl, isExt, flipD, D.fresh1, D.row, D.plain, D.plain.plainL, St.close, St.close1, St.borrow, retV, resV, resL, outCL, outC, outL, outD, wantedV, opV, An.mid, thawV, D.plainU, prune, envOf, get, put, eval, evalT, nz, argsV, capsV, ofV, binV, binV.aggV, unV, intV, eqOp, isConst, natV, optV, loadV, loadC, storeV, setC, St.at_, partV, partTy, indexAddrV, fieldAddrV, sliceV, sliceV.rowSl, sliceV.strSl, bounds, cutP, builtinV, lenV, maxL, maxV, appendV, St.elems, roomy, rowOf, rowS, isStr, esz, tdOf, convV, buildV, fillV, partsV, okParts, fillL, D.whole, D.demoteC, D.demote, demoteL, D.global, D.flat, D.leaf, D.cells, TI.agg, TD.rowish, callOpV, moveL, CC, keepB, St.borrowL, St.borrow, D.isLsl, adoptR, adoptC, adoptCL, adoptL, adopt, List.toArray, Array.toList, Nat.reduceEqDiff, Nat.reduceAdd, Nat.reduceSub, Nat.reduceMul, Nat.reduceLeDiff, Nat.reduceLT, reduceIte, reduceCtorEq, forall_const, imp_self, Int.reduceNeg, Int.reduceLT, Int.reduceLE, Int.reduceGT, Int.reduceGE, Int.reduceAdd, Int.reduceSub, Int.reduceMul, Int.reduceToNat, Int.reduceEq, ne_eq, eq_self]
      rfl
    rintro x st' ⟨rfl, ρ, rfl, h1, h2, h3⟩
    by_cases hik : i = k
    · have f1 : (i : Int) = k := by omega
      simp only [h1, h2, h3, f1, e4, llL, AL, T3, T4, T5, T24, T39, T40, T42, EL, List.replicate_succ, stepD, accs, accP, accW, simpleOp, isAl, isExt, flipD, D.fresh1, D.row, D.plain, D.plain.plainL, St.close, St.close1, St.borrow, retV, resV, resL, outCL, outC, outL, outD, wantedV, opV, An.mid, thawV, D.plainU, prune, envOf, get, put, eval, evalT, nz, argsV, capsV, ofV, binV, binV.aggV, unV, intV, eqOp, isConst, natV, optV, loadV, loadC, storeV, St.at_, partV, partTy, indexAddrV, fieldAddrV, sliceV, sliceV.rowSl, sliceV.strSl, bounds, cutP, builtinV, lenV, maxL, maxV, appendV, St.elems, roomy, rowOf, rowS, isStr, esz, tdOf, convV, buildV, fillV, partsV, okParts, fillL, D.whole, D.demoteC, D.demote, demoteL, D.global, D.flat, D.leaf, D.cells, TI.agg, TD.rowish, callOpV, moveL, CC, keepB, St.borrowL, St.borrow, D.isLsl, adoptR, adoptC, adoptCL, adoptL, adopt, List.toArray, Array.toList, Nat.reduceEqDiff, Nat.reduceAdd, Nat.reduceSub, Nat.reduceMul, Nat.reduceLeDiff, Nat.reduceLT, reduceIte, reduceCtorEq, forall_const, imp_self, Int.reduceNeg, Int.reduceLT, Int.reduceLE, Int.reduceGT, Int.reduceGE, Int.reduceAdd, Int.reduceSub, Int.reduceMul, Int.reduceToNat, Int.reduceEq, ne_eq, eq_self]
    · have f1 : ¬ (i : Int) = k := by omega
      have c4 := op_t hL hm hi hk hik hM
      have c5 := cl_t hL (opn_bnd hm hi hk) hi hk hik (mayM_t.2 (may_opn hM' hik))
      have c6 := c31 hL hm i k
      rw [sees_n hM hi hk, decide_eq_false hik, Bool.false_or] at c6
      cases ht : tb m i k <;> rw [ht] at c6
      · have q2 := eqM (cls_opn hm hM' hi hk hik ht)
        simp only [h1, h2, h3, f1, e4, c4, c5, c6, q2, llL, AL, T3, T4, T5, T24, T39, T40, T42, EL, List.replicate_succ, stepD, accs, accP, accW, simpleOp, isAl, isExt, flipD, D.fresh1, D.row, D.plain, D.plain.plainL, St.close, St.close1, St.borrow, retV, resV, resL, outCL, outC, outL, outD, wantedV, opV, An.mid, thawV, D.plainU, prune, envOf, get, put, eval, evalT, nz, argsV, capsV, ofV, binV, binV.aggV, unV, intV, eqOp, isConst, natV, optV, loadV, loadC, storeV, St.at_, partV, partTy, indexAddrV, fieldAddrV, sliceV, sliceV.rowSl, sliceV.strSl, bounds, cutP, builtinV, lenV, maxL, maxV, appendV, St.elems, roomy, rowOf, rowS, isStr, esz, tdOf, convV, buildV, fillV, partsV, okParts, fillL, D.whole, D.demoteC, D.demote, demoteL, D.global, D.flat, D.leaf, D.cells, TI.agg, TD.rowish, callOpV, moveL, CC, keepB, St.borrowL, St.borrow, D.isLsl, adoptR, adoptC, adoptCL, adoptL, adopt, List.toArray, Array.toList, Nat.reduceEqDiff, Nat.reduceAdd, Nat.reduceSub, Nat.reduceMul, Nat.reduceLeDiff, Nat.reduceLT, reduceIte, reduceCtorEq, forall_const, imp_self, Int.reduceNeg, Int.reduceLT, Int.reduceLE, Int.reduceGT, Int.reduceGE, Int.reduceAdd, Int.reduceSub, Int.reduceMul, Int.reduceToNat, Int.reduceEq, ne_eq, eq_self]
      · have q2 := eqM (opn_had hm hM' hi hk hik ht)
        simp only [h1, h2, h3, f1, e4, c4, c5, c6, q2, llL, AL, T3, T4, T5, T24, T39, T40, T42, EL, List.replicate_succ, stepD, accs, accP, accW, simpleOp, isAl, isExt, flipD, D.fresh1, D.row, D.plain, D.plain.plainL, St.close, St.close1, St.borrow, retV, resV, resL, outCL, outC, outL, outD, wantedV, opV, An.mid, thawV, D.plainU, prune, envOf, get, put, eval, evalT, nz, argsV, capsV, ofV, binV, binV.aggV, unV, intV, eqOp, isConst, natV, optV, loadV, loadC, storeV, St.at_, partV, partTy, indexAddrV, fieldAddrV, sliceV, sliceV.rowSl, sliceV.strSl, bounds, cutP, builtinV, lenV, maxL, maxV, appendV, St.elems, roomy, rowOf, rowS, isStr, esz, tdOf, convV, buildV, fillV, partsV, okParts, fillL, D.whole, D.demoteC, D.demote, demoteL, D.global, D.flat, D.leaf, D.cells, TI.agg, TD.rowish, callOpV, moveL, CC, keepB, St.borrowL, St.borrow, D.isLsl, adoptR, adoptC, adoptCL, adoptL, adopt, List.toArray, Array.toList, Nat.reduceEqDiff, Nat.reduceAdd, Nat.reduceSub, Nat.reduceMul, Nat.reduceLeDiff, Nat.reduceLT, reduceIte, reduceCtorEq, forall_const, imp_self, Int.reduceNeg, Int.reduceLT, Int.reduceLE, Int.reduceGT, Int.reduceGE, Int.reduceAdd, Int.reduceSub, Int.reduceMul, Int.reduceToNat, Int.reduceEq, ne_eq, eq_self]

end Go.Proofs.YtbbbhalmlboapaaDoor.V
