/-
Layer 26: RightsBack.
-/
import Derived.Test.YtbbbhalmlboapaaDoorLC
namespace Go.Proofs.YtbbbhalmlboapaaDoor.V
open Go Go.RowKit
set_option linter.unusedSimpArgs false
set_option linter.unusedVariables false

/-! warren/warrenlaw26.RightsBack -/
def an4 : An := ⟨fun _ => .none, fun _ => 0, fun _ => false, fun _ => .none⟩
noncomputable def fi4 : FI := ⟨2, 92, Tryd.f4.body.getD .skip, Tryd.f4.results.toList, an4, false, false, false⟩
theorem ok4 : FnOk Tryd.prog 4 fi4 := ⟨⟨Tryd.f4, Tryd.func4, by kernel_rfl, rfl, rfl, rfl⟩, by decide, by kernel_rfl, fun h => by cases h⟩

variable {C : Callees}

set_option maxRecDepth 100000 in
theorem text_len : ∀ x, x < 64 → 0 < x → (textS x).length = (bitsR x).length := by decide +kernel

set_option maxRecDepth 20000 in
set_option maxHeartbeats 4000000 in
theorem run4 (hC : Known26 C) (a b : Nat) : runV T C fi4 [.int .u8 (a : Nat), .int .u8 (b : Nat)] [] = some (.bool true, []) := by
  rw [e_run _ _ _ rfl]
  have c0 := c14 hC
  have t1 : (a : Int).tmod 64 = ((a % 64 : Nat) : Int) := tmod_nat a 64
  have t2 : (b : Int).tmod 64 = ((b % 64 : Nat) : Int) := tmod_nat b 64
  have hx : a % 64 < 64 := Nat.mod_lt _ (by decide)
  have hy : b % 64 < 64 := Nat.mod_lt _ (by decide)
  generalize a % 64 = x at t1 hx
  generalize b % 64 = y at t2 hy
  have c1 := c15 hC.toLib26B x (by omega)
  rw [if_pos hx, if_pos hx, errD_zero] at c1
  have hi := isTx_of hx (s := textS x) rfl
  have hlen : (textS x).length ≤ 6 ∨ x = 0 := by
    rcases Nat.eq_zero_or_pos x with h | h
    · exact .inr h
    · rw [text_len x hx h]; exact .inl (bits_len x)
  have c2 := c17 hC.toLib26B (textS x) (by
    rcases hlen with h | h
    · omega
    · rw [h]; decide)
  rw [hi.1, hi.2, if_pos rfl, if_pos rfl, errD_zero] at c2
  have c3 := c19 hC.toLib26A x (by omega) []
  rw [Nat.mod_eq_of_lt hx] at c3
  have c4 := c21 hC.toLib26A x x (by omega) (by omega) []
  rw [Nat.and_self, decide_eq_true rfl] at c4
  have c5 : C 21 [.int .u8 (x : Nat), .int .u8 0] [] = some (.bool true, []) := by
    have := c21 hC.toLib26A x 0 (by omega) (by omega) []
    rw [Nat.and_zero, decide_eq_true rfl] at this; exact this
  have c6 := c21 hC.toLib26A x y (by omega) (by omega) []
  have c7 := c21 hC.toLib26A y x (by omega) (by omega) []
  have ho : x ||| y < 64 := Nat.or_lt_two_pow (n := 6) hx hy
  have ha : x &&& y < 64 := Nat.lt_of_le_of_lt Nat.and_le_left hx
  have c8 := c21 hC.toLib26A (x ||| y) x (by omega) (by omega) []
  have e8 : (x ||| y) &&& x = x := by
    apply Nat.eq_of_testBit_eq
    intro i
    rw [Nat.testBit_and, Nat.testBit_or]
    cases x.testBit i <;> simp
  rw [e8, decide_eq_true rfl] at c8
  have c9 := c21 hC.toLib26A (x &&& y) x (by omega) (by omega) []
  have e9 : (x &&& y) &&& x = y &&& x := by
    apply Nat.eq_of_testBit_eq
    intro i
    rw [Nat.testBit_and, Nat.testBit_and, Nat.testBit_and]
    cases x.testBit i <;> cases y.testBit i <;> rfl
  rw [e9] at c9
  have o1 := u8_or x y (by omega) (by omega)
  have a1 := u8_and x y (by omega) (by omega)
  have key : (x &&& y = y ∧ y &&& x = x) ↔ (x : Int) = y := by
    constructor
    · rintro ⟨h1, h2⟩
      rw [Nat.and_comm] at h2
      rw [h1] at h2
      omega
    · intro h
      have h : x = y := by omega
      subst h
      exact ⟨Nat.and_self _, Nat.and_self _⟩
  have hl2 : 0 < x → (textS x).length = (onesR x).length := fun h => by rw [text_len x hx h]; simp [onesR]
  have fin : ∀ (p q : Bool), decide (x &&& y = y) = p → decide (y &&& x = x) = q → ((x : Int) = y ↔ (p = true ∧ q = true)) := fun p q hp hq => by
    rw [← key, ← hp, ← hq, decide_eq_true_eq, decide_eq_true_eq]
  generalize hp : decide (x &&& y = y) = p at c6
  generalize hq : decide (y &&& x = x) = q at c7 c9
  have fin := fin p q hp hq
  generalize x ||| y = u at c8 o1
  generalize x &&& y = w at c9 a1
  rcases Nat.eq_zero_or_pos x with h0 | h0
  · have g0 : ¬ (x : Int) > 0 := by omega
    by_cases hxy : x = y
    · obtain ⟨rfl, rfl⟩ := fin.1 (by omega)
      subst hxy
      simp only [fi4, Tryd.f4, an4, t1, t2, c0, c1, c2, c3, c4, c5, c6, c7, c8, c9, o1, a1, g0, eq_self, T3, T4, T5, T9, T24, T33, EL, e_finWf, e_finWt, e_finMN, e_finMX, retM, meltV, tupV, D.asBox, D.row1, D.freeR, D.freeO, List.replicate_succ, stepD, accs, accP, accW, simpleOp, isAl, isExt, flipD, D.fresh1, D.row, D.plain, D.plain.plainL, St.close, St.close1, St.borrow, retV, resV, resL, outCL, outC, outL, outD, wantedV, opV, An.mid, thawV, St.settle, D.plainU, prune, envOf, get, put, eval, evalT, nz, argsV, capsV, ofV, binV, binV.aggV, unV, intV, eqOp, isConst, natV, optV, loadV, loadC, storeV, setC, St.at_, partV, partTy, indexAddrV, fieldAddrV, sliceV, sliceV.rowSl, sliceV.strSl, bounds, cutP, builtinV, lenV, maxL, maxV, appendV, St.elems, roomy, rowOf, rowS, isStr, esz, tdOf, convV, buildV, fillV, partsV, okParts, fillL, D.whole, D.demoteC, D.demote, demoteL, D.global, D.flat, D.leaf, D.cells, TI.agg, TD.rowish, callOpV, moveL, CC, keepB, St.borrowL, St.borrow, D.isLsl, adoptR, adoptC, adoptCL, adoptL, adopt, List.toArray, Array.toList, Nat.reduceEqDiff, Nat.reduceAdd, Nat.reduceSub, Nat.reduceMul, Nat.reduceLeDiff, Nat.reduceLT, reduceIte, reduceCtorEq, forall_const, imp_self, Int.reduceNeg, Int.reduceLT, Int.reduceLE, Int.reduceGT, Int.reduceGE, Int.reduceAdd, Int.reduceSub, Int.reduceMul, Int.reduceToNat, Int.reduceEq, ne_eq, eq_self]
      done
    · have hn : ¬ (x : Int) = y := by omega
      have hpq : ¬ (p = true ∧ q = true) := fun e => hn (fin.2 e)
      cases p <;> cases q
      · simp only [fi4, Tryd.f4, an4, t1, t2, c0, c1, c2, c3, c4, c5, c6, c7, c8, c9, o1, a1, g0, hn, T3, T4, T5, T9, T24, T33, EL, e_finWf, e_finWt, e_finMN, e_finMX, retM, meltV, tupV, D.asBox, D.row1, D.freeR, D.freeO, List.replicate_succ, stepD, accs, accP, accW, simpleOp, isAl, isExt, flipD, D.fresh1, D.row, D.plain, D.plain.plainL, St.close, St.close1, St.borrow, retV, resV, resL, outCL, outC, outL, outD, wantedV, opV, An.mid, thawV, St.settle, D.plainU, prune, envOf, get, put, eval, evalT, nz, argsV, capsV, ofV, binV, binV.aggV, unV, intV, eqOp, isConst, natV, optV, loadV, loadC, storeV, setC, St.at_, partV, partTy, indexAddrV, fieldAddrV, sliceV, sliceV.rowSl, sliceV.strSl, bounds, cutP, builtinV, lenV, maxL, maxV, appendV, St.elems, roomy, rowOf, rowS, isStr, esz, tdOf, convV, buildV, fillV, partsV, okParts, fillL, D.whole, D.demoteC, D.demote, demoteL, D.global, D.flat, D.leaf, D.cells, TI.agg, TD.rowish, callOpV, moveL, CC, keepB, St.borrowL, St.borrow, D.isLsl, adoptR, adoptC, adoptCL, adoptL, adopt, List.toArray, Array.toList, Nat.reduceEqDiff, Nat.reduceAdd, Nat.reduceSub, Nat.reduceMul, Nat.reduceLeDiff, Nat.reduceLT, reduceIte, reduceCtorEq, forall_const, imp_self, Int.reduceNeg, Int.reduceLT, Int.reduceLE, Int.reduceGT, Int.reduceGE, Int.reduceAdd, Int.reduceSub, Int.reduceMul, Int.reduceToNat, Int.reduceEq, ne_eq, eq_self]
        done
      · simp only [fi4, Tryd.f4, an4, t1, t2, c0, c1, c2, c3, c4, c5, c6, c7, c8, c9, o1, a1, g0, hn, T3, T4, T5, T9, T24, T33, EL, e_finWf, e_finWt, e_finMN, e_finMX, retM, meltV, tupV, D.asBox, D.row1, D.freeR, D.freeO, List.replicate_succ, stepD, accs, accP, accW, simpleOp, isAl, isExt, flipD, D.fresh1, D.row, D.plain, D.plain.plainL, St.close, St.close1, St.borrow, retV, resV, resL, outCL, outC, outL, outD, wantedV, opV, An.mid, thawV, St.settle, D.plainU, prune, envOf, get, put, eval, evalT, nz, argsV, capsV, ofV, binV, binV.aggV, unV, intV, eqOp, isConst, natV, optV, loadV, loadC, storeV, setC, St.at_, partV, partTy, indexAddrV, fieldAddrV, sliceV, sliceV.rowSl, sliceV.strSl, bounds, cutP, builtinV, lenV, maxL, maxV, appendV, St.elems, roomy, rowOf, rowS, isStr, esz, tdOf, convV, buildV, fillV, partsV, okParts, fillL, D.whole, D.demoteC, D.demote, demoteL, D.global, D.flat, D.leaf, D.cells, TI.agg, TD.rowish, callOpV, moveL, CC, keepB, St.borrowL, St.borrow, D.isLsl, adoptR, adoptC, adoptCL, adoptL, adopt, List.toArray, Array.toList, Nat.reduceEqDiff, Nat.reduceAdd, Nat.reduceSub, Nat.reduceMul, Nat.reduceLeDiff, Nat.reduceLT, reduceIte, reduceCtorEq, forall_const, imp_self, Int.reduceNeg, Int.reduceLT, Int.reduceLE, Int.reduceGT, Int.reduceGE, Int.reduceAdd, Int.reduceSub, Int.reduceMul, Int.reduceToNat, Int.reduceEq, ne_eq, eq_self]
        done
      · simp only [fi4, Tryd.f4, an4, t1, t2, c0, c1, c2, c3, c4, c5, c6, c7, c8, c9, o1, a1, g0, hn, T3, T4, T5, T9, T24, T33, EL, e_finWf, e_finWt, e_finMN, e_finMX, retM, meltV, tupV, D.asBox, D.row1, D.freeR, D.freeO, List.replicate_succ, stepD, accs, accP, accW, simpleOp, isAl, isExt, flipD, D.fresh1, D.row, D.plain, D.plain.plainL, St.close, St.close1, St.borrow, retV, resV, resL, outCL, outC, outL, outD, wantedV, opV, An.mid, thawV, St.settle, D.plainU, prune, envOf, get, put, eval, evalT, nz, argsV, capsV, ofV, binV, binV.aggV, unV, intV, eqOp, isConst, natV, optV, loadV, loadC, storeV, setC, St.at_, partV, partTy, indexAddrV, fieldAddrV, sliceV, sliceV.rowSl, sliceV.strSl, bounds, cutP, builtinV, lenV, maxL, maxV, appendV, St.elems, roomy, rowOf, rowS, isStr, esz, tdOf, convV, buildV, fillV, partsV, okParts, fillL, D.whole, D.demoteC, D.demote, demoteL, D.global, D.flat, D.leaf, D.cells, TI.agg, TD.rowish, callOpV, moveL, CC, keepB, St.borrowL, St.borrow, D.isLsl, adoptR, adoptC, adoptCL, adoptL, adopt, List.toArray, Array.toList, Nat.reduceEqDiff, Nat.reduceAdd, Nat.reduceSub, Nat.reduceMul, Nat.reduceLeDiff, Nat.reduceLT, reduceIte, reduceCtorEq, forall_const, imp_self, Int.reduceNeg, Int.reduceLT, Int.reduceLE, Int.reduceGT, Int.reduceGE, Int.reduceAdd, Int.reduceSub, Int.reduceMul, Int.reduceToNat, Int.reduceEq, ne_eq, eq_self]
        done
      · exact absurd ⟨rfl, rfl⟩ hpq
  · have g0 : (x : Int) > 0 := by omega
    have g1 : ((textS x).length : Int) = ((onesR x).length : Nat) := by rw [hl2 h0]
    by_cases hxy : x = y
    · obtain ⟨rfl, rfl⟩ := fin.1 (by omega)
      subst hxy
      simp only [fi4, Tryd.f4, an4, t1, t2, c0, c1, c2, c3, c4, c5, c6, c7, c8, c9, o1, a1, g0, g1, eq_self, T3, T4, T5, T9, T24, T33, EL, e_finWf, e_finWt, e_finMN, e_finMX, retM, meltV, tupV, D.asBox, D.row1, D.freeR, D.freeO, List.replicate_succ, stepD, accs, accP, accW, simpleOp, isAl, isExt, flipD, D.fresh1, D.row, D.plain, D.plain.plainL, St.close, St.close1, St.borrow, retV, resV, resL, outCL, outC, outL, outD, wantedV, opV, An.mid, thawV, St.settle, D.plainU, prune, envOf, get, put, eval, evalT, nz, argsV, capsV, ofV, binV, binV.aggV, unV, intV, eqOp, isConst, natV, optV, loadV, loadC, storeV, setC, St.at_, partV, partTy, indexAddrV, fieldAddrV, sliceV, sliceV.rowSl, sliceV.strSl, bounds, cutP, builtinV, lenV, maxL, maxV, appendV, St.elems, roomy, rowOf, rowS, isStr, esz, tdOf, convV, buildV, fillV, partsV, okParts, fillL, D.whole, D.demoteC, D.demote, demoteL, D.global, D.flat, D.leaf, D.cells, TI.agg, TD.rowish, callOpV, moveL, CC, keepB, St.borrowL, St.borrow, D.isLsl, adoptR, adoptC, adoptCL, adoptL, adopt, List.toArray, Array.toList, Nat.reduceEqDiff, Nat.reduceAdd, Nat.reduceSub, Nat.reduceMul, Nat.reduceLeDiff, Nat.reduceLT, reduceIte, reduceCtorEq, forall_const, imp_self, Int.reduceNeg, Int.reduceLT, Int.reduceLE, Int.reduceGT, Int.reduceGE, Int.reduceAdd, Int.reduceSub, Int.reduceMul, Int.reduceToNat, Int.reduceEq, ne_eq, eq_self]
      done
    · have hn : ¬ (x : Int) = y := by omega
      have hpq : ¬ (p = true ∧ q = true) := fun e => hn (fin.2 e)
      cases p <;> cases q
      · simp only [fi4, Tryd.f4, an4, t1, t2, c0, c1, c2, c3, c4, c5, c6, c7, c8, c9, o1, a1, g0, g1, hn, T3, T4, T5, T9, T24, T33, EL, e_finWf, e_finWt, e_finMN, e_finMX, retM, meltV, tupV, D.asBox, D.row1, D.freeR, D.freeO, List.replicate_succ, stepD, accs, accP, accW, simpleOp, isAl, isExt, flipD, D.fresh1, D.row, D.plain, D.plain.plainL, St.close, St.close1, St.borrow, retV, resV, resL, outCL, outC, outL, outD, wantedV, opV, An.mid, thawV, St.settle, D.plainU, prune, envOf, get, put, eval, evalT, nz, argsV, capsV, ofV, binV, binV.aggV, unV, intV, eqOp, isConst, natV, optV, loadV, loadC, storeV, setC, St.at_, partV, partTy, indexAddrV, fieldAddrV, sliceV, sliceV.rowSl, sliceV.strSl, bounds, cutP, builtinV, lenV, maxL, maxV, appendV, St.elems, roomy, rowOf, rowS, isStr, esz, tdOf, convV, buildV, fillV, partsV, okParts, fillL, D.whole, D.demoteC, D.demote, demoteL, D.global, D.flat, D.leaf, D.cells, TI.agg, TD.rowish, callOpV, moveL, CC, keepB, St.borrowL, St.borrow, D.isLsl, adoptR, adoptC, adoptCL, adoptL, adopt, List.toArray, Array.toList, Nat.reduceEqDiff, Nat.reduceAdd, Nat.reduceSub, Nat.reduceMul, Nat.reduceLeDiff, Nat.reduceLT, reduceIte, reduceCtorEq, forall_const, imp_self, Int.reduceNeg, Int.reduceLT, Int.reduceLE, Int.reduceGT, Int.reduceGE, Int.reduceAdd, Int.reduceSub, Int.reduceMul, Int.reduceToNat, Int.reduceEq, ne_eq, eq_self]
        done
      · simp only [fi4, Tryd.f4, an4, t1, t2, c0, c1, c2, c3, c4, c5, c6, c7, c8, c9, o1, a1, g0, g1, hn, T3, T4, T5, T9, T24, T33, EL, e_finWf, e_finWt, e_finMN, e_finMX, retM, meltV, tupV, D.asBox, D.row1, D.freeR, D.freeO, List.replicate_succ, stepD, accs, accP, accW, simpleOp, isAl, isExt, flipD, D.fresh1, D.row, D.plain, D.plain.plainL, St.close, St.close1, St.borrow, retV, resV, resL, outCL, outC, outL, outD, wantedV, opV, An.mid, thawV, St.settle, D.plainU, prune, envOf, get, put, eval, evalT, nz, argsV, capsV, ofV, binV, binV.aggV, unV, intV, eqOp, isConst, natV, optV, loadV, loadC, storeV, setC, St.at_, partV, partTy, indexAddrV, fieldAddrV, sliceV, sliceV.rowSl, sliceV.strSl, bounds, cutP, builtinV, lenV, maxL, maxV, appendV, St.elems, roomy, rowOf, rowS, isStr, esz, tdOf, convV, buildV, fillV, partsV, okParts, fillL, D.whole, D.demoteC, D.demote, demoteL, D.global, D.flat, D.leaf, D.cells, TI.agg, TD.rowish, callOpV, moveL, CC, keepB, St.borrowL, St.borrow, D.isLsl, adoptR, adoptC, adoptCL, adoptL, adopt, List.toArray, Array.toList, Nat.reduceEqDiff, Nat.reduceAdd, Nat.reduceSub, Nat.reduceMul, Nat.reduceLeDiff, Nat.reduceLT, reduceIte, reduceCtorEq, forall_const, imp_self, Int.reduceNeg, Int.reduceLT, Int.reduceLE, Int.reduceGT, Int.reduceGE, Int.reduceAdd, Int.reduceSub, Int.reduceMul, Int.reduceToNat, Int.reduceEq, ne_eq, eq_self]
        done
      · simp only [fi4, Tryd.f4, an4, t1, t2, c0, c1, c2, c3, c4, c5, c6, c7, c8, c9, o1, a1, g0, g1, hn, T3, T4, T5, T9, T24, T33, EL, e_finWf, e_finWt, e_finMN, e_finMX, retM, meltV, tupV, D.asBox, D.row1, D.freeR, D.freeO, List.replicate_succ, stepD, accs, accP, accW, simpleOp, isAl, isExt, flipD, D.fresh1, D.row, D.plain, D.plain.plainL, St.close, St.close1, St.borrow, retV, resV, resL, outCL, outC, outL, outD, wantedV, opV, An.mid, thawV, St.settle, D.plainU, prune, envOf, get, put, eval, evalT, nz, argsV, capsV, ofV, binV, binV.aggV, unV, intV, eqOp, isConst, natV, optV, loadV, loadC, storeV, setC, St.at_, partV, partTy, indexAddrV, fieldAddrV, sliceV, sliceV.rowSl, sliceV.strSl, bounds, cutP, builtinV, lenV, maxL, maxV, appendV, St.elems, roomy, rowOf, rowS, isStr, esz, tdOf, convV, buildV, fillV, partsV, okParts, fillL, D.whole, D.demoteC, D.demote, demoteL, D.global, D.flat, D.leaf, D.cells, TI.agg, TD.rowish, callOpV, moveL, CC, keepB, St.borrowL, St.borrow, D.isLsl, adoptR, adoptC, adoptCL, adoptL, adopt, List.toArray, Array.toList, Nat.reduceEqDiff, Nat.reduceAdd, Nat.reduceSub, Nat.reduceMul, Nat.reduceLeDiff, Nat.reduceLT, reduceIte, reduceCtorEq, forall_const, imp_self, Int.reduceNeg, Int.reduceLT, Int.reduceLE, Int.reduceGT, Int.reduceGE, Int.reduceAdd, Int.reduceSub, Int.reduceMul, Int.reduceToNat, Int.reduceEq, ne_eq, eq_self]
        done
      · exact absurd ⟨rfl, rfl⟩ hpq

end Go.Proofs.YtbbbhalmlboapaaDoor.V
