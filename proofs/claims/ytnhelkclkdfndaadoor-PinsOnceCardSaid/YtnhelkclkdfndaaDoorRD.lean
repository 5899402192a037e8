/-
Layer 18: the document's way: without a reader, with one more.
-/
import Derived.Test.YtnhelkclkdfndaaDoorRC
namespace Go.Proofs.YtnhelkclkdfndaaDoor.V
open Go Go.RowKit
set_option linter.unusedSimpArgs false
set_option linter.unusedVariables false

variable {C : Callees}

def cutL (l : List Pn) (i : Nat) : List Pn := l.take i ++ l.drop (i + 1)
def remK (l : List Pn) (key k : Nat) : List Pn := (l.take k).filter (fun p => !decide (p.id = key))
theorem rem_step {l : List Pn} {key k : Nat} (h : k < l.length) : remK l key (k + 1) = remK l key k ++ (if (l.getD k default).id = key then [] else [l.getD k default]) := by
  unfold remK
  rw [List.take_add_one, List.getElem?_eq_getElem h, List.getD_eq_getElem?_getD, List.getElem?_eq_getElem h, List.filter_append]
  congr 1
  simp only [Option.toList_some, Option.getD_some]
  by_cases e : l[k].id = key
  · rw [if_pos e, List.filter_cons_of_neg (by simp [e])]; rfl
  · rw [if_neg e, List.filter_cons_of_pos (by simp [e])]; rfl
theorem rem_all {l : List Pn} (hs : SortP l) {key i : Nat} (h : isP l key i) : remK l key l.length = cutL l i := by
  unfold remK cutL
  rw [List.take_length]
  obtain ⟨h1, h2⟩ := h
  have e : l = l.take i ++ l[i] :: l.drop (i + 1) := by rw [← List.drop_eq_getElem_cons h1, List.take_append_drop]
  have hid : l[i].id = key := by
    have : idP l i = l[i].id := by unfold idP; rw [List.getD_eq_getElem?_getD, List.getElem?_eq_getElem h1]; rfl
    omega
  have ha : ∀ p, p ∈ l.take i → (!decide (p.id = key)) = true := fun p hp => by
    obtain ⟨j, hj⟩ := List.getElem?_of_mem hp
    have hj2 := (List.getElem?_eq_some_iff.1 hj).1
    rw [List.length_take] at hj2
    rw [List.getElem?_take_of_lt (by omega)] at hj
    have : idP l j = p.id := by unfold idP; rw [List.getD_eq_getElem?_getD, hj]; rfl
    have h3 := hs j i (by omega) h1
    simp; omega
  have hb : ∀ p, p ∈ l.drop (i + 1) → (!decide (p.id = key)) = true := fun p hp => by
    obtain ⟨j, hj⟩ := List.getElem?_of_mem hp
    have hj2 := (List.getElem?_eq_some_iff.1 hj).1
    rw [List.length_drop] at hj2
    rw [List.getElem?_drop] at hj
    have : idP l (i + 1 + j) = p.id := by unfold idP; rw [List.getD_eq_getElem?_getD, hj]; rfl
    have h3 := hs i (i + 1 + j) (by omega) (by omega)
    simp; omega
  conv => lhs; rw [e]
  rw [List.filter_append, List.filter_eq_self.2 ha, List.filter_cons_of_neg (by simp [hid]), List.filter_eq_self.2 hb]
theorem cut_map (l : List Pn) (i : Nat) : (cutL l i).map pnD = (l.map pnD).take i ++ (l.map pnD).drop (i + 1) := by
  unfold cutL; simp

def st19 (B : Hp) (n : Nat) (l : List Pn) (key : Nat) (x : Nat × Bool) : St := ⟨[(1, .int .u64 (key : Nat)), (2, .lptr 0 0), (4, .lptr 1 0), (8, .vec 18 ((remK l key x.1).map pnD) (bif x.2 then .own 0 else .exact)), (9, .int .i64 (x.1 : Nat))], [some [.int .u64 (n : Nat), pnR l .none], some [.int .u64 0, .vec 18 [] .exact]], bif x.2 then [true] else [], B⟩
theorem roomy144 {n : Nat} (h : n ≤ 100000) : roomy n 144 = true := by
  simp only [roomy, nble, decide_eq_true_eq]; omega
theorem pn_app (out : List Pn) (p : Pn) : out.map pnD ++ [.agg (.int .u64 (p.id : Nat) :: .int .u64 (p.sq : Nat) :: nums .u64 16 p.pg)] = (out ++ [p]).map pnD := by simp [pnD]
theorem rem_len (l : List Pn) (key k : Nat) : (remK l key k).length ≤ l.length := by
  unfold remK
  have := List.length_filter_le (fun p : Pn => !decide (p.id = key)) (l.take k)
  rw [List.length_take] at this
  omega
set_option maxRecDepth 20000 in
set_option maxHeartbeats 2000000 in
theorem loop19 (C : Callees) (B : Hp) (n : Nat) (l : List Pn) (key : Nat) (hl : l.length ≤ 1000) (st : St) (hst : an19.at_ (some 6) st = st19 B n l key (0, false)) :
    ∃ x st', loopC T an19 C lp19_0 st = some (x, st') ∧ x = .exit 0 ∧ ∃ ρ b, st' = ⟨ρ, [some [.int .u64 (n : Nat), pnR l .none], some [.int .u64 0, .vec 18 [] .exact]], bif b then [true] else [], B⟩ ∧ (b = false → remK l key l.length = []) ∧ get ρ 2 = .lptr 0 0 ∧ get ρ 4 = .lptr 1 0 ∧ get ρ 8 = .vec 18 ((remK l key l.length).map pnD) (bif b then .own 0 else .exact) := by
  refine loop_rule (st19 B n l key) (fun x => x.1 ≤ l.length ∧ (x.2 = false → remK l key x.1 = [])) (fun x => l.length - x.1) _ ?_ (0, false) st hst ⟨Nat.zero_le _, fun _ => rfl⟩
  rintro ⟨k, b⟩ ⟨hk, hb⟩
  simp only at hk hb
  rcases Nat.lt_or_ge k l.length with h | h
  · left
    have g0 : (k : Int) < l.length := by omega
    have g1 := pnat k
    have w1 : IntKind.i64.wrap ((k : Int) + 1) = ((k + 1 : Nat) : Int) := by rw [wrapI (by omega) (by omega)]; rfl
    have e1 := pn_get h
    have hr := rem_step (key := key) h
    have hlr := rem_len l key k
    by_cases h1 : (l.getD k default).id = key
    · have h1' : ((l.getD k default).id : Int) = key := by omega
      rw [if_pos h1, List.append_nil] at hr
      refine ⟨(k + 1, b), ?_, ⟨h, fun hh => by show remK l key (k + 1) = []; rw [hr]; exact hb hh⟩, by show l.length - (k + 1) < l.length - k; omega⟩
      simp only [st19]
      rw [hr]
      cases b <;>
      · simp only [cond_true, cond_false]
        simp only [st19, lp19_0, subC, atC, Tryd.f19, an19, g0, g1, w1, e1, h1', Int.toNat_natCast, AL, T3, T22, T23, T25, T26, T48, EL, e_finWf, e_finWt, e_finMN, e_finMX, retM, meltV, tupV, D.asBox, D.row1, D.freeR, D.freeO, List.replicate_succ, stepD, accs, accP, accW, simpleOp, isAl, isExt, flipD, D.fresh1, D.row, D.plain, D.plain.plainL, St.close, St.close1, St.borrow, retV, resV, resL, outCL, outC, outL, outD, wantedV, opV, An.mid, thawV, St.settle, D.plainU, prune, envOf, get, put, eval, evalT, nz, argsV, capsV, ofV, binV, binV.aggV, unV, intV, eqOp, isConst, natV, optV, loadV, loadC, storeV, setC, St.at_, partV, partTy, indexAddrV, fieldAddrV, sliceV, sliceV.rowSl, sliceV.strSl, bounds, cutP, builtinV, lenV, maxL, maxV, appendV, St.elems, roomy, rowOf, rowS, isStr, esz, tdOf, convV, buildV, fillV, partsV, okParts, fillL, D.whole, D.demoteC, D.demote, demoteL, D.global, D.flat, D.leaf, D.cells, TI.agg, TD.rowish, callOpV, moveL, CC, keepB, St.borrowL, St.borrow, D.isLsl, adoptR, adoptC, adoptCL, adoptL, adopt, List.toArray, Array.toList, Nat.reduceEqDiff, Nat.reduceAdd, Nat.reduceSub, Nat.reduceMul, Nat.reduceLeDiff, Nat.reduceLT, reduceIte, reduceCtorEq, forall_const, imp_self, Int.reduceNeg, Int.reduceLT, Int.reduceLE, Int.reduceGT, Int.reduceGE, Int.reduceAdd, Int.reduceSub, Int.reduceMul, Int.reduceToNat, Int.reduceEq, ne_eq, eq_self]
        exact ⟨_, rfl, rfl⟩
    · have h1' : ¬ ((l.getD k default).id : Int) = key := by omega
      rw [if_neg h1] at hr
      have a1 := pn_app (remK l key k) (l.getD k default)
      rw [← hr] at a1
      have r1 := roomy144 (n := (remK l key k).length + 1) (by omega)
      refine ⟨(k + 1, true), ?_, ⟨h, fun hh => by cases hh⟩, by show l.length - (k + 1) < l.length - k; omega⟩
      simp only [st19]
      generalize remK l key (k + 1) = out2 at a1
      generalize remK l key k = out at a1 r1
      cases b <;>
      · simp only [cond_true, cond_false]
        simp only [st19, lp19_0, subC, atC, Tryd.f19, an19, g0, g1, w1, e1, h1', a1, r1, Int.toNat_natCast, AL, T3, T22, T23, T25, T26, T48, EL, e_finWf, e_finWt, e_finMN, e_finMX, retM, meltV, tupV, D.asBox, D.row1, D.freeR, D.freeO, List.replicate_succ, stepD, accs, accP, accW, simpleOp, isAl, isExt, flipD, D.fresh1, D.row, D.plain, D.plain.plainL, St.close, St.close1, St.borrow, retV, resV, resL, outCL, outC, outL, outD, wantedV, opV, An.mid, thawV, St.settle, D.plainU, prune, envOf, get, put, eval, evalT, nz, argsV, capsV, ofV, binV, binV.aggV, unV, intV, eqOp, isConst, natV, optV, loadV, loadC, storeV, setC, St.at_, partV, partTy, indexAddrV, fieldAddrV, sliceV, sliceV.rowSl, sliceV.strSl, bounds, cutP, builtinV, lenV, maxL, maxV, appendV, St.elems, rowOf, rowS, isStr, esz, tdOf, convV, buildV, fillV, partsV, okParts, fillL, D.whole, D.demoteC, D.demote, demoteL, D.global, D.flat, D.leaf, D.cells, TI.agg, TD.rowish, callOpV, moveL, CC, keepB, St.borrowL, St.borrow, D.isLsl, adoptR, adoptC, adoptCL, adoptL, adopt, List.toArray, Array.toList, Nat.reduceEqDiff, Nat.reduceAdd, Nat.reduceSub, Nat.reduceMul, Nat.reduceLeDiff, Nat.reduceLT, reduceIte, reduceCtorEq, forall_const, imp_self, Int.reduceNeg, Int.reduceLT, Int.reduceLE, Int.reduceGT, Int.reduceGE, Int.reduceAdd, Int.reduceSub, Int.reduceMul, Int.reduceToNat, Int.reduceEq, ne_eq, eq_self]
        first
          | exact ⟨_, rfl, rfl⟩
          | (refine ⟨_, rfl, ?_⟩; show an19.at_ (some 6) _ = _; simp only [an19, ren_map, toks_map, boxes_map, AL, An.at_, tidyV, tidyW, tidyB, tidyT, sift, envBoxes, envToks, conToks, D.toks, D.tok1, toksL, D.boxes, D.box1, boxesL, memN, posN, renE, D.ren, D.ren1, renL, renB, St.content, St.boxOk, St.tokOk, trues, T3, T22, T23, T25, T26, T48, EL, e_finWf, e_finWt, e_finMN, e_finMX, retM, meltV, tupV, D.asBox, D.row1, D.freeR, D.freeO, List.replicate_succ, stepD, accs, accP, accW, simpleOp, isAl, isExt, flipD, D.fresh1, D.row, D.plain, D.plain.plainL, St.close, St.close1, St.borrow, retV, resV, resL, outCL, outC, outL, outD, wantedV, opV, An.mid, thawV, St.settle, D.plainU, prune, envOf, get, put, eval, evalT, nz, argsV, capsV, ofV, binV, binV.aggV, unV, intV, eqOp, isConst, natV, optV, loadV, loadC, storeV, setC, St.at_, partV, partTy, indexAddrV, fieldAddrV, sliceV, sliceV.rowSl, sliceV.strSl, bounds, cutP, builtinV, lenV, maxL, maxV, appendV, St.elems, roomy, rowOf, rowS, isStr, esz, tdOf, convV, buildV, fillV, partsV, okParts, fillL, D.whole, D.demoteC, D.demote, demoteL, D.global, D.flat, D.leaf, D.cells, TI.agg, TD.rowish, callOpV, moveL, CC, keepB, St.borrowL, St.borrow, D.isLsl, adoptR, adoptC, adoptCL, adoptL, adopt, List.toArray, Array.toList, Nat.reduceEqDiff, Nat.reduceAdd, Nat.reduceSub, Nat.reduceMul, Nat.reduceLeDiff, Nat.reduceLT, reduceIte, reduceCtorEq, forall_const, imp_self, Int.reduceNeg, Int.reduceLT, Int.reduceLE, Int.reduceGT, Int.reduceGE, Int.reduceAdd, Int.reduceSub, Int.reduceMul, Int.reduceToNat, Int.reduceEq, ne_eq, eq_self])
  · right
    obtain rfl : k = l.length := by omega
    have g0 : ¬ ((l.length : Nat) : Int) < l.length := by omega
    simp only [st19]
    cases b
    · simp only [cond_false]
      simp only [st19, lp19_0, subC, atC, Tryd.f19, an19, g0, T3, T22, T23, T25, T26, T48, EL, e_finWf, e_finWt, e_finMN, e_finMX, retM, meltV, tupV, D.asBox, D.row1, D.freeR, D.freeO, List.replicate_succ, stepD, accs, accP, accW, simpleOp, isAl, isExt, flipD, D.fresh1, D.row, D.plain, D.plain.plainL, St.close, St.close1, St.borrow, retV, resV, resL, outCL, outC, outL, outD, wantedV, opV, An.mid, thawV, St.settle, D.plainU, prune, envOf, get, put, eval, evalT, nz, argsV, capsV, ofV, binV, binV.aggV, unV, intV, eqOp, isConst, natV, optV, loadV, loadC, storeV, setC, St.at_, partV, partTy, indexAddrV, fieldAddrV, sliceV, sliceV.rowSl, sliceV.strSl, bounds, cutP, builtinV, lenV, maxL, maxV, appendV, St.elems, roomy, rowOf, rowS, isStr, esz, tdOf, convV, buildV, fillV, partsV, okParts, fillL, D.whole, D.demoteC, D.demote, demoteL, D.global, D.flat, D.leaf, D.cells, TI.agg, TD.rowish, callOpV, moveL, CC, keepB, St.borrowL, St.borrow, D.isLsl, adoptR, adoptC, adoptCL, adoptL, adopt, List.toArray, Array.toList, Nat.reduceEqDiff, Nat.reduceAdd, Nat.reduceSub, Nat.reduceMul, Nat.reduceLeDiff, Nat.reduceLT, reduceIte, reduceCtorEq, forall_const, imp_self, Int.reduceNeg, Int.reduceLT, Int.reduceLE, Int.reduceGT, Int.reduceGE, Int.reduceAdd, Int.reduceSub, Int.reduceMul, Int.reduceToNat, Int.reduceEq, ne_eq, eq_self]
      exact ⟨_, _, rfl, by simp, rfl, _, false, rfl, hb, rfl, rfl, rfl⟩
    · simp only [cond_true]
      simp only [st19, lp19_0, subC, atC, Tryd.f19, an19, g0, T3, T22, T23, T25, T26, T48, EL, e_finWf, e_finWt, e_finMN, e_finMX, retM, meltV, tupV, D.asBox, D.row1, D.freeR, D.freeO, List.replicate_succ, stepD, accs, accP, accW, simpleOp, isAl, isExt, flipD, D.fresh1, D.row, D.plain, D.plain.plainL, St.close, St.close1, St.borrow, retV, resV, resL, outCL, outC, outL, outD, wantedV, opV, An.mid, thawV, St.settle, D.plainU, prune, envOf, get, put, eval, evalT, nz, argsV, capsV, ofV, binV, binV.aggV, unV, intV, eqOp, isConst, natV, optV, loadV, loadC, storeV, setC, St.at_, partV, partTy, indexAddrV, fieldAddrV, sliceV, sliceV.rowSl, sliceV.strSl, bounds, cutP, builtinV, lenV, maxL, maxV, appendV, St.elems, roomy, rowOf, rowS, isStr, esz, tdOf, convV, buildV, fillV, partsV, okParts, fillL, D.whole, D.demoteC, D.demote, demoteL, D.global, D.flat, D.leaf, D.cells, TI.agg, TD.rowish, callOpV, moveL, CC, keepB, St.borrowL, St.borrow, D.isLsl, adoptR, adoptC, adoptCL, adoptL, adopt, List.toArray, Array.toList, Nat.reduceEqDiff, Nat.reduceAdd, Nat.reduceSub, Nat.reduceMul, Nat.reduceLeDiff, Nat.reduceLT, reduceIte, reduceCtorEq, forall_const, imp_self, Int.reduceNeg, Int.reduceLT, Int.reduceLE, Int.reduceGT, Int.reduceGE, Int.reduceAdd, Int.reduceSub, Int.reduceMul, Int.reduceToNat, Int.reduceEq, ne_eq, eq_self]
      exact ⟨_, _, rfl, by simp, rfl, _, true, rfl, hb, rfl, rfl, rfl⟩

theorem c21_bad (hC : Lib18C C) (n : Nat) (l : List Pn) (hl : l.length ≤ 1000) (h : mayP n l = false) (key : Nat) (B : Hp) : C 21 [.agg [.int .u64 (n : Nat), .vec 18 (l.map pnD) .none], .int .u64 (key : Nat)] B = some (.tuple [.agg zPn, .int .i64 1], B) := hC.f21 _ _ _ (run21_bad hC n l hl h key B)
theorem c21_hit (hC : Lib18C C) (n : Nat) (l : List Pn) (h : mayP n l = true) {key i : Nat} (hi : isP l key i) (B : Hp) : C 21 [.agg [.int .u64 (n : Nat), .vec 18 (l.map pnD) .none], .int .u64 (key : Nat)] B = some (.tuple [.agg (.int .u64 ((l.getD i default).id : Nat) :: .int .u64 ((l.getD i default).sq : Nat) :: nums .u64 16 (l.getD i default).pg), .int .i64 0], B) := by
  rcases run21_all hC n l h key B with ⟨j, hj, hr⟩ | ⟨hm, _⟩
  · obtain rfl := isP_uniq (may_sort h).1 hi hj
    exact hC.f21 _ _ _ hr
  · exact absurd hi (hm i)
theorem c21_miss (hC : Lib18C C) (n : Nat) (l : List Pn) (h : mayP n l = true) {key : Nat} (hi : ∀ i, ¬ isP l key i) (B : Hp) : C 21 [.agg [.int .u64 (n : Nat), .vec 18 (l.map pnD) .none], .int .u64 (key : Nat)] B = some (.tuple [.agg zPn, .int .i64 6], B) := by
  rcases run21_all hC n l h key B with ⟨j, hj, hr⟩ | ⟨_, hr⟩
  · exact absurd hj (hi j)
  · exact hC.f21 _ _ _ hr

set_option maxRecDepth 20000 in
set_option maxHeartbeats 2000000 in
theorem run19_bad (hC : Lib18C C) (n : Nat) (l : List Pn) (hl : l.length ≤ 1000) (h : mayP n l = false) (key : Nat) (B : Hp) : runV T C fi19 [psD n l, .int .u64 (key : Nat)] B = some (.tuple [.agg [.int .u64 0, .vec 18 [] .fresh], .int .i64 1], B) := by
  rw [e_run _ _ _ rfl]
  have c1 := c21_bad hC n l hl h key
  unfold zPn at c1
  simp only [fi19, Tryd.f19, an19, c1, AL, T3, T22, T23, T25, T26, T48, EL, e_finWf, e_finWt, e_finMN, e_finMX, retM, meltV, tupV, D.asBox, D.row1, D.freeR, D.freeO, List.replicate_succ, stepD, accs, accP, accW, simpleOp, isAl, isExt, flipD, D.fresh1, D.row, D.plain, D.plain.plainL, St.close, St.close1, St.borrow, retV, resV, resL, outCL, outC, outL, outD, wantedV, opV, An.mid, thawV, St.settle, D.plainU, prune, envOf, get, put, eval, evalT, nz, argsV, capsV, ofV, binV, binV.aggV, unV, intV, eqOp, isConst, natV, optV, loadV, loadC, storeV, setC, St.at_, partV, partTy, indexAddrV, fieldAddrV, sliceV, sliceV.rowSl, sliceV.strSl, bounds, cutP, builtinV, lenV, maxL, maxV, appendV, St.elems, roomy, rowOf, rowS, isStr, esz, tdOf, convV, buildV, fillV, partsV, okParts, fillL, D.whole, D.demoteC, D.demote, demoteL, D.global, D.flat, D.leaf, D.cells, TI.agg, TD.rowish, callOpV, moveL, CC, keepB, St.borrowL, St.borrow, D.isLsl, adoptR, adoptC, adoptCL, adoptL, adopt, List.toArray, Array.toList, Nat.reduceEqDiff, Nat.reduceAdd, Nat.reduceSub, Nat.reduceMul, Nat.reduceLeDiff, Nat.reduceLT, reduceIte, reduceCtorEq, forall_const, imp_self, Int.reduceNeg, Int.reduceLT, Int.reduceLE, Int.reduceGT, Int.reduceGE, Int.reduceAdd, Int.reduceSub, Int.reduceMul, Int.reduceToNat, Int.reduceEq, ne_eq, eq_self]
set_option maxRecDepth 20000 in
set_option maxHeartbeats 2000000 in
theorem run19_miss (hC : Lib18C C) (n : Nat) (l : List Pn) (h : mayP n l = true) {key : Nat} (hi : ∀ i, ¬ isP l key i) (B : Hp) : runV T C fi19 [psD n l, .int .u64 (key : Nat)] B = some (.tuple [.agg [.int .u64 0, .vec 18 [] .fresh], .int .i64 6], B) := by
  rw [e_run _ _ _ rfl]
  have c1 := c21_miss hC n l h hi
  unfold zPn at c1
  simp only [fi19, Tryd.f19, an19, c1, AL, T3, T22, T23, T25, T26, T48, EL, e_finWf, e_finWt, e_finMN, e_finMX, retM, meltV, tupV, D.asBox, D.row1, D.freeR, D.freeO, List.replicate_succ, stepD, accs, accP, accW, simpleOp, isAl, isExt, flipD, D.fresh1, D.row, D.plain, D.plain.plainL, St.close, St.close1, St.borrow, retV, resV, resL, outCL, outC, outL, outD, wantedV, opV, An.mid, thawV, St.settle, D.plainU, prune, envOf, get, put, eval, evalT, nz, argsV, capsV, ofV, binV, binV.aggV, unV, intV, eqOp, isConst, natV, optV, loadV, loadC, storeV, setC, St.at_, partV, partTy, indexAddrV, fieldAddrV, sliceV, sliceV.rowSl, sliceV.strSl, bounds, cutP, builtinV, lenV, maxL, maxV, appendV, St.elems, roomy, rowOf, rowS, isStr, esz, tdOf, convV, buildV, fillV, partsV, okParts, fillL, D.whole, D.demoteC, D.demote, demoteL, D.global, D.flat, D.leaf, D.cells, TI.agg, TD.rowish, callOpV, moveL, CC, keepB, St.borrowL, St.borrow, D.isLsl, adoptR, adoptC, adoptCL, adoptL, adopt, List.toArray, Array.toList, Nat.reduceEqDiff, Nat.reduceAdd, Nat.reduceSub, Nat.reduceMul, Nat.reduceLeDiff, Nat.reduceLT, reduceIte, reduceCtorEq, forall_const, imp_self, Int.reduceNeg, Int.reduceLT, Int.reduceLE, Int.reduceGT, Int.reduceGE, Int.reduceAdd, Int.reduceSub, Int.reduceMul, Int.reduceToNat, Int.reduceEq, ne_eq, eq_self]
set_option maxRecDepth 20000 in
set_option maxHeartbeats 2000000 in
theorem run19_hit (hC : Lib18C C) (n : Nat) (l : List Pn) (h : mayP n l = true) {key i : Nat} (hi : isP l key i) (B : Hp) : runV T C fi19 [psD n l, .int .u64 (key : Nat)] B = some (.tuple [.agg [.int .u64 (n : Nat), pnR (cutL l i) .fresh], .int .i64 0], B) := by
  rw [e_run _ _ _ rfl]
  obtain ⟨hs, h8, _, _⟩ := may_sort h
  have c1 := c21_hit hC n l h hi
  have lp := loop19 C B n l key (by omega)
  have hall := rem_all hs hi
  rw [hall] at lp
  simp only [fi19, Tryd.f19, an19, c1, AL, T3, T22, T23, T25, T26, T48, EL, e_finWf, e_finWt, e_finMN, e_finMX, retM, meltV, tupV, D.asBox, D.row1, D.freeR, D.freeO, List.replicate_succ, stepD, accs, accP, accW, simpleOp, isAl, isExt, flipD, D.fresh1, D.row, D.plain, D.plain.plainL, St.close, St.close1, St.borrow, retV, resV, resL, outCL, outC, outL, outD, wantedV, opV, An.mid, thawV, St.settle, D.plainU, prune, envOf, get, put, eval, evalT, nz, argsV, capsV, ofV, binV, binV.aggV, unV, intV, eqOp, isConst, natV, optV, loadV, loadC, storeV, setC, St.at_, partV, partTy, indexAddrV, fieldAddrV, sliceV, sliceV.rowSl, sliceV.strSl, bounds, cutP, builtinV, lenV, maxL, maxV, appendV, St.elems, roomy, rowOf, rowS, isStr, esz, tdOf, convV, buildV, fillV, partsV, okParts, fillL, D.whole, D.demoteC, D.demote, demoteL, D.global, D.flat, D.leaf, D.cells, TI.agg, TD.rowish, callOpV, moveL, CC, keepB, St.borrowL, St.borrow, D.isLsl, adoptR, adoptC, adoptCL, adoptL, adopt, List.toArray, Array.toList, Nat.reduceEqDiff, Nat.reduceAdd, Nat.reduceSub, Nat.reduceMul, Nat.reduceLeDiff, Nat.reduceLT, reduceIte, reduceCtorEq, forall_const, imp_self, Int.reduceNeg, Int.reduceLT, Int.reduceLE, Int.reduceGT, Int.reduceGE, Int.reduceAdd, Int.reduceSub, Int.reduceMul, Int.reduceToNat, Int.reduceEq, ne_eq, eq_self]
  refine' in_loop (c' := lp19_0) (fin T _ _ _) ?h rfl ?q
  case h =>
    refine lp _ ?_
    simp only [an19, ren_map, toks_map, boxes_map, st19, pz0, AL, An.at_, tidyV, tidyW, tidyB, tidyT, sift, envBoxes, envToks, conToks, D.toks, D.tok1, toksL, D.boxes, D.box1, boxesL, memN, posN, renE, D.ren, D.ren1, renL, renB, St.content, St.boxOk, St.tokOk, trues, T3, T22, T23, T25, T26, T48, EL, e_finWf, e_finWt, e_finMN, e_finMX, retM, meltV, tupV, D.asBox, D.row1, D.freeR, D.freeO, List.replicate_succ, stepD, accs, accP, accW, simpleOp, isAl, isExt, flipD, D.fresh1, D.row, D.plain, D.plain.plainL, St.close, St.close1, St.borrow, retV, resV, resL, outCL, outC, outL, outD, wantedV, opV, An.mid, thawV, St.settle, D.plainU, prune, envOf, get, put, eval, evalT, nz, argsV, capsV, ofV, binV, binV.aggV, unV, intV, eqOp, isConst, natV, optV, loadV, loadC, storeV, setC, St.at_, partV, partTy, indexAddrV, fieldAddrV, sliceV, sliceV.rowSl, sliceV.strSl, bounds, cutP, builtinV, lenV, maxL, maxV, appendV, St.elems, roomy, rowOf, rowS, isStr, esz, tdOf, convV, buildV, fillV, partsV, okParts, fillL, D.whole, D.demoteC, D.demote, demoteL, D.global, D.flat, D.leaf, D.cells, TI.agg, TD.rowish, callOpV, moveL, CC, keepB, St.borrowL, St.borrow, D.isLsl, adoptR, adoptC, adoptCL, adoptL, adopt, List.toArray, Array.toList, Nat.reduceEqDiff, Nat.reduceAdd, Nat.reduceSub, Nat.reduceMul, Nat.reduceLeDiff, Nat.reduceLT, reduceIte, reduceCtorEq, forall_const, imp_self, Int.reduceNeg, Int.reduceLT, Int.reduceLE, Int.reduceGT, Int.reduceGE, Int.reduceAdd, Int.reduceSub, Int.reduceMul, Int.reduceToNat, Int.reduceEq, ne_eq, eq_self]
    all_goals rfl
  rintro x st' ⟨rfl, ρ, b, rfl, hb, r2, r4, r8⟩
  cases b with
  | false =>
    rw [hb rfl] at r8 ⊢
    simp only [r2, r4, r8, cond_false, List.map_nil, AL, T3, T22, T23, T25, T26, T48, EL, e_finWf, e_finWt, e_finMN, e_finMX, retM, meltV, tupV, D.asBox, D.row1, D.freeR, D.freeO, List.replicate_succ, stepD, accs, accP, accW, simpleOp, isAl, isExt, flipD, D.fresh1, D.row, D.plain, D.plain.plainL, St.close, St.close1, St.borrow, retV, resV, resL, outCL, outC, outL, outD, wantedV, opV, An.mid, thawV, St.settle, D.plainU, prune, envOf, get, put, eval, evalT, nz, argsV, capsV, ofV, binV, binV.aggV, unV, intV, eqOp, isConst, natV, optV, loadV, loadC, storeV, setC, St.at_, partV, partTy, indexAddrV, fieldAddrV, sliceV, sliceV.rowSl, sliceV.strSl, bounds, cutP, builtinV, lenV, maxL, maxV, appendV, St.elems, roomy, rowOf, rowS, isStr, esz, tdOf, convV, buildV, fillV, partsV, okParts, fillL, D.whole, D.demoteC, D.demote, demoteL, D.global, D.flat, D.leaf, D.cells, TI.agg, TD.rowish, callOpV, moveL, CC, keepB, St.borrowL, St.borrow, D.isLsl, adoptR, adoptC, adoptCL, adoptL, adopt, List.toArray, Array.toList, Nat.reduceEqDiff, Nat.reduceAdd, Nat.reduceSub, Nat.reduceMul, Nat.reduceLeDiff, Nat.reduceLT, reduceIte, reduceCtorEq, forall_const, imp_self, Int.reduceNeg, Int.reduceLT, Int.reduceLE, Int.reduceGT, Int.reduceGE, Int.reduceAdd, Int.reduceSub, Int.reduceMul, Int.reduceToNat, Int.reduceEq, ne_eq, eq_self]
    rfl
  | true =>
    simp only [r2, r4, r8, cond_true, AL, T3, T22, T23, T25, T26, T48, EL, e_finWf, e_finWt, e_finMN, e_finMX, retM, meltV, tupV, D.asBox, D.row1, D.freeR, D.freeO, List.replicate_succ, stepD, accs, accP, accW, simpleOp, isAl, isExt, flipD, D.fresh1, D.row, D.plain, D.plain.plainL, St.close, St.close1, St.borrow, retV, resV, resL, outCL, outC, outL, outD, wantedV, opV, An.mid, thawV, St.settle, D.plainU, prune, envOf, get, put, eval, evalT, nz, argsV, capsV, ofV, binV, binV.aggV, unV, intV, eqOp, isConst, natV, optV, loadV, loadC, storeV, setC, St.at_, partV, partTy, indexAddrV, fieldAddrV, sliceV, sliceV.rowSl, sliceV.strSl, bounds, cutP, builtinV, lenV, maxL, maxV, appendV, St.elems, roomy, rowOf, rowS, isStr, esz, tdOf, convV, buildV, fillV, partsV, okParts, fillL, D.whole, D.demoteC, D.demote, demoteL, D.global, D.flat, D.leaf, D.cells, TI.agg, TD.rowish, callOpV, moveL, CC, keepB, St.borrowL, St.borrow, D.isLsl, adoptR, adoptC, adoptCL, adoptL, adopt, List.toArray, Array.toList, Nat.reduceEqDiff, Nat.reduceAdd, Nat.reduceSub, Nat.reduceMul, Nat.reduceLeDiff, Nat.reduceLT, reduceIte, reduceCtorEq, forall_const, imp_self, Int.reduceNeg, Int.reduceLT, Int.reduceLE, Int.reduceGT, Int.reduceGE, Int.reduceAdd, Int.reduceSub, Int.reduceMul, Int.reduceToNat, Int.reduceEq, ne_eq, eq_self]

end Go.Proofs.YtnhelkclkdfndaaDoor.V
