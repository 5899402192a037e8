/-
Layer 8: LeafGrows.
-/
import Derived.Test.YtfkhijjabkhmmaaDoorGH
namespace Go.Proofs.YtfkhijjabkhmmaaDoor.V
open Go Go.RowKit
set_option linter.unusedSimpArgs false
set_option linter.unusedVariables false

/-! warren/warrenlaw08.LeafGrows -/
def an5 : An := ⟨fun | 5 => some [3, 4] | _ => .none, fun _ => 0, fun _ => false, fun _ => .none⟩
noncomputable def fi5 : FI := ⟨1, 124, Tryd.f5.body.getD .skip, Tryd.f5.results.toList, an5, false, false, false⟩
theorem ok5 : FnOk Tryd.prog 5 fi5 := ⟨⟨Tryd.f5, Tryd.func5, by kernel_rfl, rfl, rfl, rfl⟩, by decide, by kernel_rfl, fun h => by cases h⟩
noncomputable def lp5_0 : Code := subC [1, 1, 1, 0, 1, 0, 0] (Tryd.f5.body.getD .skip)   -- head 5 keep [3, 4]

variable {C : Callees}

theorem encE8_ok {l : List Ce} (h1 : allB l.length (okAt l) = true) (h2 : allB l.length (aP l) = true) : encE8 l = if (encB l).length ≤ 504 then 0 else 5 := by
  unfold encE8
  rw [if_pos h1, if_pos h2]
theorem ky_take {l : List Ce} {m i : Nat} (h : i < m) : (kyS (l.take m)).getD i [] = (kyS l).getD i [] := by
  show ((l.take m).map Ce.k).getD i [] = _
  rw [List.map_take, List.getD_eq_getElem?_getD, List.getElem?_take_of_lt h, ← List.getD_eq_getElem?_getD]
theorem take_all {l : List Ce} {m : Nat} (hm : m ≤ l.length) (h1 : ∀ c, c ∈ l → okC c = true) (h2 : allB l.length (aP l) = true) : allB (l.take m).length (okAt (l.take m)) = true ∧ allB (l.take m).length (aP (l.take m)) = true := by
  refine ⟨ok_all.2 fun c hc => h1 c (List.mem_of_mem_take hc), ?_⟩
  rw [allB_iff] at h2 ⊢
  intro i hi
  rw [List.length_take] at hi
  have := h2 i (by omega)
  unfold aP at this ⊢
  rw [ky_take (by omega), ky_take (by omega)]
  exact this

def st5 (l : List Ce) (k : Nat) : St := ⟨[(3, ceR l (.own 0)), (4, .int .i64 (k : Nat))], [], [true], []⟩
set_option maxRecDepth 20000 in
set_option maxHeartbeats 2000000 in
theorem loop5 (hC : Known08 C) (l : List Ce) (hl : l.length ≤ 100) (hv : LongV l) (st : St) (hst : an5.at_ (some 5) st = st5 l 0) :
    ∃ x st', loopC T an5 C lp5_0 st = some (x, st') ∧ ∃ ρ, st' = ⟨ρ, [], [true], []⟩ ∧ ((x = .exit 0 ∧ allB l.length (okAt l) = true ∧ allB l.length (aP l) = true ∧ get ρ 3 = ceR l (.own 0)) ∨ (x = .ret ∧ get ρ 2 = .bool true)) := by
  refine loop_rule (st5 l) (fun k => k ≤ l.length ∧ allB k (okAt l) = true ∧ allB k (aP l) = true) (fun k => l.length - k) _ ?_ 0 st hst ⟨Nat.zero_le _, rfl, rfl⟩
  rintro k ⟨hk, hI, hJ⟩
  have c0 := c10 hC
  rcases Nat.lt_or_ge k l.length with h | h
  · have g0 : (k : Int) < l.length := by omega
    have g1 := pnat k
    have w1 : IntKind.i64.wrap ((k : Int) + 1) = ((k + 1 : Nat) : Int) := by rw [wrapI (by omega) (by omega)]; rfl
    have e1 := ce_get h
    have c1 := c21 hC.toLib08A (l.getD k default) (hv _ (getD_mem h))
    unfold okE at c1
    simp only [st5]
    cases ho : okC (l.getD k default) with
    | false =>
      rw [ho, if_neg (by decide), errD_pos (by decide)] at c1
      right
      simp only [st5, lp5_0, subC, atC, Tryd.f5, an5, c0, g0, g1, w1, e1, c1, Int.toNat_natCast, T3, T5, T9, T22, T23, T26, T28, T31, T45, EL, e_finWf, e_finWt, e_finMN, e_finMX, retM, meltV, tupV, D.asBox, D.row1, D.freeR, D.freeO, List.replicate_succ, stepD, accs, accP, accW, simpleOp, isAl, isExt, flipD, D.fresh1, D.row, D.plain, D.plain.plainL, St.close, St.close1, St.borrow, retV, resV, resL, outCL, outC, outL, outD, wantedV, opV, An.mid, thawV, St.settle, D.plainU, prune, envOf, get, put, eval, evalT, nz, argsV, capsV, ofV, binV, binV.aggV, unV, intV, eqOp, isConst, natV, optV, loadV, loadC, storeV, setC, St.at_, partV, partTy, indexAddrV, fieldAddrV, sliceV, sliceV.rowSl, sliceV.strSl, bounds, cutP, builtinV, lenV, maxL, maxV, appendV, St.elems, roomy, rowOf, rowS, isStr, esz, tdOf, convV, buildV, fillV, partsV, okParts, fillL, D.whole, D.demoteC, D.demote, demoteL, D.global, D.flat, D.leaf, D.cells, TI.agg, TD.rowish, callOpV, moveL, CC, keepB, St.borrowL, St.borrow, D.isLsl, adoptR, adoptC, adoptCL, adoptL, adopt, List.toArray, Array.toList, Nat.reduceEqDiff, Nat.reduceAdd, Nat.reduceSub, Nat.reduceMul, Nat.reduceLeDiff, Nat.reduceLT, reduceIte, reduceCtorEq, forall_const, imp_self, Int.reduceNeg, Int.reduceLT, Int.reduceLE, Int.reduceGT, Int.reduceGE, Int.reduceAdd, Int.reduceSub, Int.reduceMul, Int.reduceToNat, Int.reduceEq, ne_eq, eq_self]
      exact ⟨_, _, rfl, by simp, _, rfl, .inr ⟨rfl, rfl⟩⟩
    | true =>
      rw [ho, if_pos rfl, errD_zero] at c1
      have hI2 : allB (k + 1) (okAt l) = true := by rw [allB, hI]; exact ho
      rcases Nat.eq_zero_or_pos k with h0 | h0
      · have g2 : ¬ (k : Int) > 0 := by omega
        left
        refine ⟨k + 1, ?_, ⟨by omega, hI2, by rw [allB, hJ]; unfold aP; rw [decide_eq_true h0]; rfl⟩, by omega⟩
        simp only [st5, lp5_0, subC, atC, Tryd.f5, an5, g0, g1, g2, w1, e1, c1, Int.toNat_natCast, T3, T5, T9, T22, T23, T26, T28, T31, T45, EL, e_finWf, e_finWt, e_finMN, e_finMX, retM, meltV, tupV, D.asBox, D.row1, D.freeR, D.freeO, List.replicate_succ, stepD, accs, accP, accW, simpleOp, isAl, isExt, flipD, D.fresh1, D.row, D.plain, D.plain.plainL, St.close, St.close1, St.borrow, retV, resV, resL, outCL, outC, outL, outD, wantedV, opV, An.mid, thawV, St.settle, D.plainU, prune, envOf, get, put, eval, evalT, nz, argsV, capsV, ofV, binV, binV.aggV, unV, intV, eqOp, isConst, natV, optV, loadV, loadC, storeV, setC, St.at_, partV, partTy, indexAddrV, fieldAddrV, sliceV, sliceV.rowSl, sliceV.strSl, bounds, cutP, builtinV, lenV, maxL, maxV, appendV, St.elems, roomy, rowOf, rowS, isStr, esz, tdOf, convV, buildV, fillV, partsV, okParts, fillL, D.whole, D.demoteC, D.demote, demoteL, D.global, D.flat, D.leaf, D.cells, TI.agg, TD.rowish, callOpV, moveL, CC, keepB, St.borrowL, St.borrow, D.isLsl, adoptR, adoptC, adoptCL, adoptL, adopt, List.toArray, Array.toList, Nat.reduceEqDiff, Nat.reduceAdd, Nat.reduceSub, Nat.reduceMul, Nat.reduceLeDiff, Nat.reduceLT, reduceIte, reduceCtorEq, forall_const, imp_self, Int.reduceNeg, Int.reduceLT, Int.reduceLE, Int.reduceGT, Int.reduceGE, Int.reduceAdd, Int.reduceSub, Int.reduceMul, Int.reduceToNat, Int.reduceEq, ne_eq, eq_self]
        exact ⟨_, rfl, rfl⟩
      · have g2 : (k : Int) > 0 := by omega
        have w2 : IntKind.i64.wrap ((k : Int) - 1) = ((k - 1 : Nat) : Int) := by rw [wrapI (by omega) (by omega)]; omega
        have g3 := pnat (k - 1)
        have e2 := ce_get (l := l) (i := k - 1) (by omega)
        have s1 : strV .geq (l.getD (k - 1) default).k (l.getD k default).k = some (.bool (!lt (l.getD (k - 1) default).k (l.getD k default).k)) := rfl
        have hP : aP l k = lt (l.getD (k - 1) default).k (l.getD k default).k := by
          unfold aP
          rw [decide_eq_false (by omega), Bool.false_or, ky_get (by omega), ky_get h]
        cases hlt : lt (l.getD (k - 1) default).k (l.getD k default).k <;> rw [hlt] at s1 hP
        · right
          simp only [st5, lp5_0, subC, atC, Tryd.f5, an5, c0, g0, g1, g2, g3, w1, w2, e1, e2, c1, s1, Bool.not_false, Int.toNat_natCast, T3, T5, T9, T22, T23, T26, T28, T31, T45, EL, e_finWf, e_finWt, e_finMN, e_finMX, retM, meltV, tupV, D.asBox, D.row1, D.freeR, D.freeO, List.replicate_succ, stepD, accs, accP, accW, simpleOp, isAl, isExt, flipD, D.fresh1, D.row, D.plain, D.plain.plainL, St.close, St.close1, St.borrow, retV, resV, resL, outCL, outC, outL, outD, wantedV, opV, An.mid, thawV, St.settle, D.plainU, prune, envOf, get, put, eval, evalT, nz, argsV, capsV, ofV, binV, binV.aggV, unV, intV, eqOp, isConst, natV, optV, loadV, loadC, storeV, setC, St.at_, partV, partTy, indexAddrV, fieldAddrV, sliceV, sliceV.rowSl, sliceV.strSl, bounds, cutP, builtinV, lenV, maxL, maxV, appendV, St.elems, roomy, rowOf, rowS, isStr, esz, tdOf, convV, buildV, fillV, partsV, okParts, fillL, D.whole, D.demoteC, D.demote, demoteL, D.global, D.flat, D.leaf, D.cells, TI.agg, TD.rowish, callOpV, moveL, CC, keepB, St.borrowL, St.borrow, D.isLsl, adoptR, adoptC, adoptCL, adoptL, adopt, List.toArray, Array.toList, Nat.reduceEqDiff, Nat.reduceAdd, Nat.reduceSub, Nat.reduceMul, Nat.reduceLeDiff, Nat.reduceLT, reduceIte, reduceCtorEq, forall_const, imp_self, Int.reduceNeg, Int.reduceLT, Int.reduceLE, Int.reduceGT, Int.reduceGE, Int.reduceAdd, Int.reduceSub, Int.reduceMul, Int.reduceToNat, Int.reduceEq, ne_eq, eq_self]
          exact ⟨_, _, rfl, by simp, _, rfl, .inr ⟨rfl, rfl⟩⟩
        · left
          refine ⟨k + 1, ?_, ⟨by omega, hI2, by rw [allB, hJ, hP]; rfl⟩, by omega⟩
          simp only [st5, lp5_0, subC, atC, Tryd.f5, an5, g0, g1, g2, g3, w1, w2, e1, e2, c1, s1, Bool.not_true, Int.toNat_natCast, T3, T5, T9, T22, T23, T26, T28, T31, T45, EL, e_finWf, e_finWt, e_finMN, e_finMX, retM, meltV, tupV, D.asBox, D.row1, D.freeR, D.freeO, List.replicate_succ, stepD, accs, accP, accW, simpleOp, isAl, isExt, flipD, D.fresh1, D.row, D.plain, D.plain.plainL, St.close, St.close1, St.borrow, retV, resV, resL, outCL, outC, outL, outD, wantedV, opV, An.mid, thawV, St.settle, D.plainU, prune, envOf, get, put, eval, evalT, nz, argsV, capsV, ofV, binV, binV.aggV, unV, intV, eqOp, isConst, natV, optV, loadV, loadC, storeV, setC, St.at_, partV, partTy, indexAddrV, fieldAddrV, sliceV, sliceV.rowSl, sliceV.strSl, bounds, cutP, builtinV, lenV, maxL, maxV, appendV, St.elems, roomy, rowOf, rowS, isStr, esz, tdOf, convV, buildV, fillV, partsV, okParts, fillL, D.whole, D.demoteC, D.demote, demoteL, D.global, D.flat, D.leaf, D.cells, TI.agg, TD.rowish, callOpV, moveL, CC, keepB, St.borrowL, St.borrow, D.isLsl, adoptR, adoptC, adoptCL, adoptL, adopt, List.toArray, Array.toList, Nat.reduceEqDiff, Nat.reduceAdd, Nat.reduceSub, Nat.reduceMul, Nat.reduceLeDiff, Nat.reduceLT, reduceIte, reduceCtorEq, forall_const, imp_self, Int.reduceNeg, Int.reduceLT, Int.reduceLE, Int.reduceGT, Int.reduceGE, Int.reduceAdd, Int.reduceSub, Int.reduceMul, Int.reduceToNat, Int.reduceEq, ne_eq, eq_self]
          exact ⟨_, rfl, rfl⟩
  · right
    obtain rfl : k = l.length := by omega
    have g0 : ¬ ((l.length : Nat) : Int) < l.length := by omega
    simp only [st5]
    simp only [st5, lp5_0, subC, atC, Tryd.f5, an5, g0, T3, T5, T9, T22, T23, T26, T28, T31, T45, EL, e_finWf, e_finWt, e_finMN, e_finMX, retM, meltV, tupV, D.asBox, D.row1, D.freeR, D.freeO, List.replicate_succ, stepD, accs, accP, accW, simpleOp, isAl, isExt, flipD, D.fresh1, D.row, D.plain, D.plain.plainL, St.close, St.close1, St.borrow, retV, resV, resL, outCL, outC, outL, outD, wantedV, opV, An.mid, thawV, St.settle, D.plainU, prune, envOf, get, put, eval, evalT, nz, argsV, capsV, ofV, binV, binV.aggV, unV, intV, eqOp, isConst, natV, optV, loadV, loadC, storeV, setC, St.at_, partV, partTy, indexAddrV, fieldAddrV, sliceV, sliceV.rowSl, sliceV.strSl, bounds, cutP, builtinV, lenV, maxL, maxV, appendV, St.elems, roomy, rowOf, rowS, isStr, esz, tdOf, convV, buildV, fillV, partsV, okParts, fillL, D.whole, D.demoteC, D.demote, demoteL, D.global, D.flat, D.leaf, D.cells, TI.agg, TD.rowish, callOpV, moveL, CC, keepB, St.borrowL, St.borrow, D.isLsl, adoptR, adoptC, adoptCL, adoptL, adopt, List.toArray, Array.toList, Nat.reduceEqDiff, Nat.reduceAdd, Nat.reduceSub, Nat.reduceMul, Nat.reduceLeDiff, Nat.reduceLT, reduceIte, reduceCtorEq, forall_const, imp_self, Int.reduceNeg, Int.reduceLT, Int.reduceLE, Int.reduceGT, Int.reduceGE, Int.reduceAdd, Int.reduceSub, Int.reduceMul, Int.reduceToNat, Int.reduceEq, ne_eq, eq_self]
    exact ⟨_, _, rfl, by simp, _, rfl, .inl ⟨rfl, hI, hJ, rfl⟩⟩

set_option maxRecDepth 20000 in
set_option maxHeartbeats 4000000 in
theorem run5 (hC : Known08 C) (l : List Ce) (hl : l.length * 48 ≤ 140737488351232) (hv : LongV l) : runV T C fi5 [ceR l .none] [] = some (.bool true, []) := by
  rw [e_run _ _ _ rfl]
  have c0 := c10 hC
  have hL := hC.toLib08E
  have c1 := c12 hL.toLib08A l hl []
  by_cases h1 : l.length ≤ 100
  · have g1 : ¬ (l.length : Int) > 100 := by omega
    rcases Nat.eq_zero_or_pos l.length with hz | hz
    · have g2 : (l.length : Int) = 0 := by omega
      simp only [fi5, Tryd.f5, an5, c0, c1, g1, g2, T3, T5, T9, T22, T23, T26, T28, T31, T45, EL, e_finWf, e_finWt, e_finMN, e_finMX, retM, meltV, tupV, D.asBox, D.row1, D.freeR, D.freeO, List.replicate_succ, stepD, accs, accP, accW, simpleOp, isAl, isExt, flipD, D.fresh1, D.row, D.plain, D.plain.plainL, St.close, St.close1, St.borrow, retV, resV, resL, outCL, outC, outL, outD, wantedV, opV, An.mid, thawV, St.settle, D.plainU, prune, envOf, get, put, eval, evalT, nz, argsV, capsV, ofV, binV, binV.aggV, unV, intV, eqOp, isConst, natV, optV, loadV, loadC, storeV, setC, St.at_, partV, partTy, indexAddrV, fieldAddrV, sliceV, sliceV.rowSl, sliceV.strSl, bounds, cutP, builtinV, lenV, maxL, maxV, appendV, St.elems, roomy, rowOf, rowS, isStr, esz, tdOf, convV, buildV, fillV, partsV, okParts, fillL, D.whole, D.demoteC, D.demote, demoteL, D.global, D.flat, D.leaf, D.cells, TI.agg, TD.rowish, callOpV, moveL, CC, keepB, St.borrowL, St.borrow, D.isLsl, adoptR, adoptC, adoptCL, adoptL, adopt, List.toArray, Array.toList, Nat.reduceEqDiff, Nat.reduceAdd, Nat.reduceSub, Nat.reduceMul, Nat.reduceLeDiff, Nat.reduceLT, reduceIte, reduceCtorEq, forall_const, imp_self, Int.reduceNeg, Int.reduceLT, Int.reduceLE, Int.reduceGT, Int.reduceGE, Int.reduceAdd, Int.reduceSub, Int.reduceMul, Int.reduceToNat, Int.reduceEq, ne_eq, eq_self]
      done
    · have g2 : ¬ (l.length : Int) = 0 := by omega
      have lp := loop5 hC l h1 hv
      simp only [fi5, Tryd.f5, an5, c0, c1, g1, g2, nlit8, T3, T5, T9, T22, T23, T26, T28, T31, T45, EL, e_finWf, e_finWt, e_finMN, e_finMX, retM, meltV, tupV, D.asBox, D.row1, D.freeR, D.freeO, List.replicate_succ, stepD, accs, accP, accW, simpleOp, isAl, isExt, flipD, D.fresh1, D.row, D.plain, D.plain.plainL, St.close, St.close1, St.borrow, retV, resV, resL, outCL, outC, outL, outD, wantedV, opV, An.mid, thawV, St.settle, D.plainU, prune, envOf, get, put, eval, evalT, nz, argsV, capsV, ofV, binV, binV.aggV, unV, intV, eqOp, isConst, natV, optV, loadV, loadC, storeV, setC, St.at_, partV, partTy, indexAddrV, fieldAddrV, sliceV, sliceV.rowSl, sliceV.strSl, bounds, cutP, builtinV, lenV, maxL, maxV, appendV, St.elems, roomy, rowOf, rowS, isStr, esz, tdOf, convV, buildV, fillV, partsV, okParts, fillL, D.whole, D.demoteC, D.demote, demoteL, D.global, D.flat, D.leaf, D.cells, TI.agg, TD.rowish, callOpV, moveL, CC, keepB, St.borrowL, St.borrow, D.isLsl, adoptR, adoptC, adoptCL, adoptL, adopt, List.toArray, Array.toList, Nat.reduceEqDiff, Nat.reduceAdd, Nat.reduceSub, Nat.reduceMul, Nat.reduceLeDiff, Nat.reduceLT, reduceIte, reduceCtorEq, forall_const, imp_self, Int.reduceNeg, Int.reduceLT, Int.reduceLE, Int.reduceGT, Int.reduceGE, Int.reduceAdd, Int.reduceSub, Int.reduceMul, Int.reduceToNat, Int.reduceEq, ne_eq, eq_self]
      refine' in_loop (c' := lp5_0) (fin T _ _ _) ?h rfl ?q
      case h =>
        refine lp _ ?_
        simp only [an5, ren_map, toks_map, boxes_map, st5, pz0, An.at_, tidyV, tidyW, tidyB, tidyT, sift, envBoxes, envToks, conToks, D.toks, D.tok1, toksL, D.boxes, D.box1, boxesL, memN, posN, renE, D.ren, D.ren1, renL, renB, St.content, St.boxOk, St.tokOk, trues, T3, T5, T9, T22, T23, T26, T28, T31, T45, EL, e_finWf, e_finWt, e_finMN, e_finMX, retM, meltV, tupV, D.asBox, D.row1, D.freeR, D.freeO, List.replicate_succ, stepD, accs, accP, accW, simpleOp, isAl, isExt, flipD, D.fresh1, D.row, D.plain, D.plain.plainL, St.close, St.close1, St.borrow, retV, resV, resL, outCL, outC, outL, outD, wantedV, opV, An.mid, thawV, St.settle, D.plainU, prune, envOf, get, put, eval, evalT, nz, argsV, capsV, ofV, binV, binV.aggV, unV, intV, eqOp, isConst, natV, optV, loadV, loadC, storeV, setC, St.at_, partV, partTy, indexAddrV, fieldAddrV, sliceV, sliceV.rowSl, sliceV.strSl, bounds, cutP, builtinV, lenV, maxL, maxV, appendV, St.elems, roomy, rowOf, rowS, isStr, esz, tdOf, convV, buildV, fillV, partsV, okParts, fillL, D.whole, D.demoteC, D.demote, demoteL, D.global, D.flat, D.leaf, D.cells, TI.agg, TD.rowish, callOpV, moveL, CC, keepB, St.borrowL, St.borrow, D.isLsl, adoptR, adoptC, adoptCL, adoptL, adopt, List.toArray, Array.toList, Nat.reduceEqDiff, Nat.reduceAdd, Nat.reduceSub, Nat.reduceMul, Nat.reduceLeDiff, Nat.reduceLT, reduceIte, reduceCtorEq, forall_const, imp_self, Int.reduceNeg, Int.reduceLT, Int.reduceLE, Int.reduceGT, Int.reduceGE, Int.reduceAdd, Int.reduceSub, Int.reduceMul, Int.reduceToNat, Int.reduceEq, ne_eq, eq_self]
        all_goals rfl
      rintro x st' ⟨ρ, rfl, ⟨rfl, ha, hb, r3⟩ | ⟨rfl, r2⟩⟩
      · clear lp
        have hok := ok_all.1 ha
        have hm : l.length - 1 < l.length := by omega
        obtain ⟨ta, tb⟩ := take_all (m := l.length - 1) (by omega) hok hb
        have c2 := c11 hL.toLib08C l (by omega) hv []
        have c3 := c11 hL.toLib08C (l.take (l.length - 1)) (by rw [List.length_take]; omega) (fun c hc => hv c (List.mem_of_mem_take hc)) []
        have hlast := hok _ (getD_mem hm)
        have hbd := (okC_iff _).1 hlast
        have hsz := size_le hlast
        have hg : (l.getD (l.length - 1) default).g = (((l.getD (l.length - 1) default).g.toNat : Nat) : Int) := by omega
        have c4 : C 18 [.str (l.getD (l.length - 1) default).k, .int .i64 (l.getD (l.length - 1) default).g] [] = some (.int .i64 (sizeC (l.getD (l.length - 1) default).k (l.getD (l.length - 1) default).g : Nat), []) := by
          have := c18_8 hL.toLib08A (l.getD (l.length - 1) default).k (l.getD (l.length - 1) default).g.toNat (by omega) (by omega) []
          rw [← hg] at this
          exact this
        have hlen : (encB l).length = (encB (l.take (l.length - 1))).length + sizeC (l.getD (l.length - 1) default).k (l.getD (l.length - 1) default).g := by
          have h5 := flat_take hm
          rw [show l.length - 1 + 1 = l.length by omega, List.take_length] at h5
          unfold encB
          rw [List.length_append, List.length_append, vone (by omega), vone (by rw [List.length_take]; omega), h5, List.length_append, one_len hlast]
          omega
        have w1 : IntKind.i64.wrap ((l.length : Int) - 1) = ((l.length - 1 : Nat) : Int) := by rw [wrapI (by omega) (by omega)]; omega
        have g3 := pnat (l.length - 1)
        have g4 : l.length - 1 ≤ l.length := by omega
        have e1 := ce_get (l := l) (i := l.length - 1) (by omega)
        have q5 := num5 hC []
        unfold encV8 at c2 c3
        rw [encE8_ok ha hb] at c2
        rw [encE8_ok ta tb] at c3
        generalize sizeC (l.getD (l.length - 1) default).k (l.getD (l.length - 1) default).g = z at c4 hlen hsz
        generalize encB (l.take (l.length - 1)) = P at c3 hlen
        generalize encB l = Q at c2 hlen
        by_cases hP : P.length ≤ 504
        · rw [if_pos hP, if_pos rfl, errD_zero] at c3
          have w2 : IntKind.i64.wrap ((P.length : Int) + z) = ((P.length + z : Nat) : Int) := by rw [wrapI (by omega) (by omega)]; omega
          rw [hlen] at c2
          by_cases hQ : P.length + z ≤ 504
          · rw [if_pos hQ, if_pos rfl, errD_zero] at c2
            have y1 : (((P.length + z : Nat) : Int)) ≤ 504 := by omega
            simp only [r3, c0, c2, c3, c4, w1, w2, g3, g4, e1, hlen, y1, nlit8, Int.toNat_natCast, T3, T5, T9, T22, T23, T26, T28, T31, T45, EL, e_finWf, e_finWt, e_finMN, e_finMX, retM, meltV, tupV, D.asBox, D.row1, D.freeR, D.freeO, List.replicate_succ, stepD, accs, accP, accW, simpleOp, isAl, isExt, flipD, D.fresh1, D.row, D.plain, D.plain.plainL, St.close, St.close1, St.borrow, retV, resV, resL, outCL, outC, outL, outD, wantedV, opV, An.mid, thawV, St.settle, D.plainU, prune, envOf, get, put, eval, evalT, nz, argsV, capsV, ofV, binV, binV.aggV, unV, intV, eqOp, isConst, natV, optV, loadV, loadC, storeV, setC, St.at_, partV, partTy, indexAddrV, fieldAddrV, sliceV, sliceV.rowSl, sliceV.strSl, bounds, cutP, builtinV, lenV, maxL, maxV, appendV, St.elems, roomy, rowOf, rowS, isStr, esz, tdOf, convV, buildV, fillV, partsV, okParts, fillL, D.whole, D.demoteC, D.demote, demoteL, D.global, D.flat, D.leaf, D.cells, TI.agg, TD.rowish, callOpV, moveL, CC, keepB, St.borrowL, St.borrow, D.isLsl, adoptR, adoptC, adoptCL, adoptL, adopt, List.toArray, Array.toList, Nat.reduceEqDiff, Nat.reduceAdd, Nat.reduceSub, Nat.reduceMul, Nat.reduceLeDiff, Nat.reduceLT, reduceIte, reduceCtorEq, forall_const, imp_self, Int.reduceNeg, Int.reduceLT, Int.reduceLE, Int.reduceGT, Int.reduceGE, Int.reduceAdd, Int.reduceSub, Int.reduceMul, Int.reduceToNat, Int.reduceEq, ne_eq, eq_self]
            done
          · rw [if_neg hQ, if_neg (by decide), errD_pos (by decide)] at c2
            simp only [nlit8] at c2
            have y1 : (((P.length + z : Nat) : Int)) > 504 := by omega
            simp only [r3, c0, c2, c3, c4, w1, w2, g3, g4, e1, q5, y1, nlit8, Int.toNat_natCast, T3, T5, T9, T22, T23, T26, T28, T31, T45, EL, e_finWf, e_finWt, e_finMN, e_finMX, retM, meltV, tupV, D.asBox, D.row1, D.freeR, D.freeO, List.replicate_succ, stepD, accs, accP, accW, simpleOp, isAl, isExt, flipD, D.fresh1, D.row, D.plain, D.plain.plainL, St.close, St.close1, St.borrow, retV, resV, resL, outCL, outC, outL, outD, wantedV, opV, An.mid, thawV, St.settle, D.plainU, prune, envOf, get, put, eval, evalT, nz, argsV, capsV, ofV, binV, binV.aggV, unV, intV, eqOp, isConst, natV, optV, loadV, loadC, storeV, setC, St.at_, partV, partTy, indexAddrV, fieldAddrV, sliceV, sliceV.rowSl, sliceV.strSl, bounds, cutP, builtinV, lenV, maxL, maxV, appendV, St.elems, roomy, rowOf, rowS, isStr, esz, tdOf, convV, buildV, fillV, partsV, okParts, fillL, D.whole, D.demoteC, D.demote, demoteL, D.global, D.flat, D.leaf, D.cells, TI.agg, TD.rowish, callOpV, moveL, CC, keepB, St.borrowL, St.borrow, D.isLsl, adoptR, adoptC, adoptCL, adoptL, adopt, List.toArray, Array.toList, Nat.reduceEqDiff, Nat.reduceAdd, Nat.reduceSub, Nat.reduceMul, Nat.reduceLeDiff, Nat.reduceLT, reduceIte, reduceCtorEq, forall_const, imp_self, Int.reduceNeg, Int.reduceLT, Int.reduceLE, Int.reduceGT, Int.reduceGE, Int.reduceAdd, Int.reduceSub, Int.reduceMul, Int.reduceToNat, Int.reduceEq, ne_eq, eq_self]
            done
        · rw [if_neg hP, if_neg (by decide), errD_pos (by decide)] at c3
          rw [if_neg (show ¬ Q.length ≤ 504 by omega), if_neg (by decide), errD_pos (by decide)] at c2
          simp only [nlit8] at c2 c3
          simp only [r3, c0, c2, c3, c4, w1, g3, g4, e1, q5, nlit8, Int.toNat_natCast, T3, T5, T9, T22, T23, T26, T28, T31, T45, EL, e_finWf, e_finWt, e_finMN, e_finMX, retM, meltV, tupV, D.asBox, D.row1, D.freeR, D.freeO, List.replicate_succ, stepD, accs, accP, accW, simpleOp, isAl, isExt, flipD, D.fresh1, D.row, D.plain, D.plain.plainL, St.close, St.close1, St.borrow, retV, resV, resL, outCL, outC, outL, outD, wantedV, opV, An.mid, thawV, St.settle, D.plainU, prune, envOf, get, put, eval, evalT, nz, argsV, capsV, ofV, binV, binV.aggV, unV, intV, eqOp, isConst, natV, optV, loadV, loadC, storeV, setC, St.at_, partV, partTy, indexAddrV, fieldAddrV, sliceV, sliceV.rowSl, sliceV.strSl, bounds, cutP, builtinV, lenV, maxL, maxV, appendV, St.elems, roomy, rowOf, rowS, isStr, esz, tdOf, convV, buildV, fillV, partsV, okParts, fillL, D.whole, D.demoteC, D.demote, demoteL, D.global, D.flat, D.leaf, D.cells, TI.agg, TD.rowish, callOpV, moveL, CC, keepB, St.borrowL, St.borrow, D.isLsl, adoptR, adoptC, adoptCL, adoptL, adopt, List.toArray, Array.toList, Nat.reduceEqDiff, Nat.reduceAdd, Nat.reduceSub, Nat.reduceMul, Nat.reduceLeDiff, Nat.reduceLT, reduceIte, reduceCtorEq, forall_const, imp_self, Int.reduceNeg, Int.reduceLT, Int.reduceLE, Int.reduceGT, Int.reduceGE, Int.reduceAdd, Int.reduceSub, Int.reduceMul, Int.reduceToNat, Int.reduceEq, ne_eq, eq_self]
          done
      · simp only [r2, T3, T5, T9, T22, T23, T26, T28, T31, T45, EL, e_finWf, e_finWt, e_finMN, e_finMX, retM, meltV, tupV, D.asBox, D.row1, D.freeR, D.freeO, List.replicate_succ, stepD, accs, accP, accW, simpleOp, isAl, isExt, flipD, D.fresh1, D.row, D.plain, D.plain.plainL, St.close, St.close1, St.borrow, retV, resV, resL, outCL, outC, outL, outD, wantedV, opV, An.mid, thawV, St.settle, D.plainU, prune, envOf, get, put, eval, evalT, nz, argsV, capsV, ofV, binV, binV.aggV, unV, intV, eqOp, isConst, natV, optV, loadV, loadC, storeV, setC, St.at_, partV, partTy, indexAddrV, fieldAddrV, sliceV, sliceV.rowSl, sliceV.strSl, bounds, cutP, builtinV, lenV, maxL, maxV, appendV, St.elems, roomy, rowOf, rowS, isStr, esz, tdOf, convV, buildV, fillV, partsV, okParts, fillL, D.whole, D.demoteC, D.demote, demoteL, D.global, D.flat, D.leaf, D.cells, TI.agg, TD.rowish, callOpV, moveL, CC, keepB, St.borrowL, St.borrow, D.isLsl, adoptR, adoptC, adoptCL, adoptL, adopt, List.toArray, Array.toList, Nat.reduceEqDiff, Nat.reduceAdd, Nat.reduceSub, Nat.reduceMul, Nat.reduceLeDiff, Nat.reduceLT, reduceIte, reduceCtorEq, forall_const, imp_self, Int.reduceNeg, Int.reduceLT, Int.reduceLE, Int.reduceGT, Int.reduceGE, Int.reduceAdd, Int.reduceSub, Int.reduceMul, Int.reduceToNat, Int.reduceEq, ne_eq, eq_self]
        done
  · have g1 : (l.length : Int) > 100 := by omega
    simp only [fi5, Tryd.f5, an5, c0, c1, g1, T3, T5, T9, T22, T23, T26, T28, T31, T45, EL, e_finWf, e_finWt, e_finMN, e_finMX, retM, meltV, tupV, D.asBox, D.row1, D.freeR, D.freeO, List.replicate_succ, stepD, accs, accP, accW, simpleOp, isAl, isExt, flipD, D.fresh1, D.row, D.plain, D.plain.plainL, St.close, St.close1, St.borrow, retV, resV, resL, outCL, outC, outL, outD, wantedV, opV, An.mid, thawV, St.settle, D.plainU, prune, envOf, get, put, eval, evalT, nz, argsV, capsV, ofV, binV, binV.aggV, unV, intV, eqOp, isConst, natV, optV, loadV, loadC, storeV, setC, St.at_, partV, partTy, indexAddrV, fieldAddrV, sliceV, sliceV.rowSl, sliceV.strSl, bounds, cutP, builtinV, lenV, maxL, maxV, appendV, St.elems, roomy, rowOf, rowS, isStr, esz, tdOf, convV, buildV, fillV, partsV, okParts, fillL, D.whole, D.demoteC, D.demote, demoteL, D.global, D.flat, D.leaf, D.cells, TI.agg, TD.rowish, callOpV, moveL, CC, keepB, St.borrowL, St.borrow, D.isLsl, adoptR, adoptC, adoptCL, adoptL, adopt, List.toArray, Array.toList, Nat.reduceEqDiff, Nat.reduceAdd, Nat.reduceSub, Nat.reduceMul, Nat.reduceLeDiff, Nat.reduceLT, reduceIte, reduceCtorEq, forall_const, imp_self, Int.reduceNeg, Int.reduceLT, Int.reduceLE, Int.reduceGT, Int.reduceGE, Int.reduceAdd, Int.reduceSub, Int.reduceMul, Int.reduceToNat, Int.reduceEq, ne_eq, eq_self]
    done

end Go.Proofs.YtfkhijjabkhmmaaDoor.V
