/-
Layer 19: the document's heads out of pages; the newest one.
-/
import Derived.Test.YtnhelkclkdfndaaDoorHB
namespace Go.Proofs.YtnhelkclkdfndaaDoor.V
open Go Go.RowKit
set_option linter.unusedSimpArgs false
set_option linter.unusedVariables false

variable {C : Callees}

def rfL : RS → List D
  | some l => [.vec 1 (l.map byteD) .none, .bool false]
  | .none => [.vec 1 [] (.own 0), .bool true]
def tkR : RS → List Bool
  | some _ => []
  | .none => [true]
def seqR (l : List UInt8) : Nat → RS
  | 0 => some l
  | k + 1 => (numP (seqR l k) big).1
def valR (l : List UInt8) (k : Nat) : Nat := (numP (seqR l k) big).2
def memR (l : List UInt8) (k : Nat) : Nat → Nat := fun i => if i < k then valR l i else 0

theorem memR_upd (l : List UInt8) (k : Nat) : updA (memR l k) k (valR l k) = memR l (k + 1) := by
  funext i
  unfold updA memR
  by_cases h : i = k
  · subst h; simp
  · by_cases h2 : i < k
    · rw [if_neg h, if_pos h2, if_pos (by omega)]
    · rw [if_neg h, if_neg h2, if_neg (by omega)]
theorem five_seq (l : List UInt8) : five l big big = (seqR l 5, valR l 0, valR l 1, valR l 2, valR l 3, valR l 4) := rfl
theorem seqR_bd {l : List UInt8} (hl : l.length ≤ 1000000) : ∀ k, Bd (seqR l k)
  | 0 => fun q hq => by injection hq with hq; subst hq; exact hl
  | k + 1 => (seqR_bd hl k).num big

abbrev zHd : List D := [.int .u64 0, .int .u64 0, .int .u64 0, .int .i64 0, .int .i64 0]
def st35 (B : Hp) (K : Nat) (l : List UInt8) (k : Nat) : St := ⟨[(2, .lptr 0 0), (4, .int .u8 (K : Nat)), (7, .lptr 1 0), (8, .lptr 2 0), (9, .int .i64 (k : Nat))], [some zHd, some (rfL (seqR l k)), some (nums .u64 5 (memR l k))], tkR (seqR l k), B⟩

theorem set2 (a b c d : D) : setC [a, b] 0 [c, d] = [c, d] := rfl
theorem nums5 (m : Nat → Nat) : nums .u64 5 m = [.int .u64 (m 0), .int .u64 (m 1), .int .u64 (m 2), .int .u64 (m 3), .int .u64 (m 4)] := rfl

set_option maxRecDepth 20000 in
set_option maxHeartbeats 2000000 in
theorem loop35 (hC : Lib19 C) (B : Hp) (K : Nat) (l : List UInt8) (hl : l.length ≤ 1000000) (st : St) (hst : an35.at_ (some 7) st = st35 B K l 0) :
    ∃ x st', loopC T an35 C lp35_0 st = some (x, st') ∧ x = .exit 0 ∧ ∃ ρ, st' = ⟨ρ, [some zHd, some (rfL (seqR l 5)), some (nums .u64 5 (memR l 5))], tkR (seqR l 5), B⟩ ∧ get ρ 2 = .lptr 0 0 ∧ get ρ 4 = .int .u8 (K : Nat) ∧ get ρ 7 = .lptr 1 0 ∧ get ρ 8 = .lptr 2 0 := by
  refine loop_rule (st35 B K l) (fun k => k ≤ 5) (fun k => 5 - k) _ ?_ 0 st hst (Nat.zero_le _)
  intro k hk
  have hb := seqR_bd hl k
  rcases Nat.lt_or_ge k 5 with h | h
  · left
    refine ⟨k + 1, ?_, by omega, by omega⟩
    have g0 : (k : Int) < 5 := by omega
    have g1 := pnat k
    have w1 : IntKind.i64.wrap ((k : Int) + 1) = ((k + 1 : Nat) : Int) := by rw [wrapI (by omega) (by omega)]; rfl
    have s1 := nums_set (k := .u64) (n := 5) (m := memR l k) (a := k) (x := valR l k) h
    rw [memR_upd] at s1
    have h4 : k ≤ 4 := by omega
    have c1 : ∀ q w, q.length ≤ 1000000 → ∀ B, C 96 [.agg [.vec 1 (q.map byteD) .none, .bool w], .int .u64 4611686018427387904] B = some (.tuple [rfD (numS q big).1, .int .u64 ((numS q big).2 : Nat)], B) := fun q w hq B => c96 hC.toLibPack q w big hq B
    have e1 : seqR l (k + 1) = (numP (seqR l k) big).1 := rfl
    have e2 : valR l k = (numP (seqR l k) big).2 := rfl
    unfold st35
    rw [e1]
    generalize memR l (k + 1) = m1 at s1
    generalize memR l k = m0 at s1
    generalize valR l k = v0 at s1 e2
    generalize seqR l k = s at hb e2
    cases s with
    | none =>
      have c2 := c1 [] true (by decide)
      have e3 : numS [] big = (.none, 0) := rfl
      rw [e3] at c2
      simp only [numP] at e2
      subst e2
      simp only [numP, rfD, List.map_nil, rfL, tkR] at c2 ⊢
      rw [pz0] at s1
      simp only [pz0] at c2
      simp only [st35, lp35_0, subC, atC, Tryd.f35, an35, g0, g1, w1, s1, h, h4, c2, set2, pz0, Int.toNat_natCast, AL, T3, T4, T5, T22, T67, T68, T175, T188, EL, e_finWf, e_finWt, e_finMN, e_finMX, retM, meltV, tupV, D.asBox, D.row1, D.freeR, D.freeO, List.replicate_succ, stepD, accs, accP, accW, simpleOp, isAl, isExt, flipD, D.fresh1, D.row, D.plain, D.plain.plainL, St.close, St.close1, St.borrow, retV, resV, resL, outCL, outC, outL, outD, wantedV, opV, An.mid, thawV, St.settle, D.plainU, prune, envOf, get, put, eval, evalT, nz, argsV, capsV, ofV, binV, binV.aggV, unV, intV, eqOp, isConst, natV, optV, loadV, loadC, storeV, St.at_, partV, partTy, indexAddrV, fieldAddrV, sliceV, sliceV.rowSl, sliceV.strSl, bounds, cutP, builtinV, lenV, maxL, maxV, appendV, St.elems, roomy, rowOf, rowS, isStr, esz, tdOf, convV, buildV, fillV, partsV, okParts, fillL, D.whole, D.demoteC, D.demote, demoteL, D.global, D.flat, D.leaf, D.cells, TI.agg, TD.rowish, callOpV, moveL, CC, keepB, St.borrowL, St.borrow, D.isLsl, adoptR, adoptC, adoptCL, adoptL, adopt, List.toArray, Array.toList, Nat.reduceEqDiff, Nat.reduceAdd, Nat.reduceSub, Nat.reduceMul, Nat.reduceLeDiff, Nat.reduceLT, reduceIte, reduceCtorEq, forall_const, imp_self, Int.reduceNeg, Int.reduceLT, Int.reduceLE, Int.reduceGT, Int.reduceGE, Int.reduceAdd, Int.reduceSub, Int.reduceMul, Int.reduceToNat, Int.reduceEq, ne_eq, eq_self]
      refine ⟨_, rfl, ?_⟩
      show an35.at_ (some 7) _ = _
      simp only [an35, ren_map, toks_map, boxes_map, AL, An.at_, tidyV, tidyW, tidyB, tidyT, sift, envBoxes, envToks, conToks, D.toks, D.tok1, toksL, D.boxes, D.box1, boxesL, memN, posN, renE, D.ren, D.ren1, renL, renB, St.content, St.boxOk, St.tokOk, trues, T3, T4, T5, T22, T67, T68, T175, T188, EL, e_finWf, e_finWt, e_finMN, e_finMX, retM, meltV, tupV, D.asBox, D.row1, D.freeR, D.freeO, List.replicate_succ, stepD, accs, accP, accW, simpleOp, isAl, isExt, flipD, D.fresh1, D.row, D.plain, D.plain.plainL, St.close, St.close1, St.borrow, retV, resV, resL, outCL, outC, outL, outD, wantedV, opV, An.mid, thawV, St.settle, D.plainU, prune, envOf, get, put, eval, evalT, nz, argsV, capsV, ofV, binV, binV.aggV, unV, intV, eqOp, isConst, natV, optV, loadV, loadC, storeV, setC, St.at_, partV, partTy, indexAddrV, fieldAddrV, sliceV, sliceV.rowSl, sliceV.strSl, bounds, cutP, builtinV, lenV, maxL, maxV, appendV, St.elems, roomy, rowOf, rowS, isStr, esz, tdOf, convV, buildV, fillV, partsV, okParts, fillL, D.whole, D.demoteC, D.demote, demoteL, D.global, D.flat, D.leaf, D.cells, TI.agg, TD.rowish, callOpV, moveL, CC, keepB, St.borrowL, St.borrow, D.isLsl, adoptR, adoptC, adoptCL, adoptL, adopt, List.toArray, Array.toList, Nat.reduceEqDiff, Nat.reduceAdd, Nat.reduceSub, Nat.reduceMul, Nat.reduceLeDiff, Nat.reduceLT, reduceIte, reduceCtorEq, forall_const, imp_self, Int.reduceNeg, Int.reduceLT, Int.reduceLE, Int.reduceGT, Int.reduceGE, Int.reduceAdd, Int.reduceSub, Int.reduceMul, Int.reduceToNat, Int.reduceEq, ne_eq, eq_self]
    | some q =>
      have c2 := c1 q false (hb q rfl)
      simp only [numP] at e2
      rw [← e2] at c2
      simp only [numP, rfL, tkR] at c2 ⊢
      cases hx : (numS q big).1 with
      | none =>
        rw [hx] at c2
        simp only [rfD] at c2 ⊢
        simp only [st35, lp35_0, subC, atC, Tryd.f35, an35, g0, g1, w1, s1, h, h4, c2, set2, pz0, Int.toNat_natCast, AL, T3, T4, T5, T22, T67, T68, T175, T188, EL, e_finWf, e_finWt, e_finMN, e_finMX, retM, meltV, tupV, D.asBox, D.row1, D.freeR, D.freeO, List.replicate_succ, stepD, accs, accP, accW, simpleOp, isAl, isExt, flipD, D.fresh1, D.row, D.plain, D.plain.plainL, St.close, St.close1, St.borrow, retV, resV, resL, outCL, outC, outL, outD, wantedV, opV, An.mid, thawV, St.settle, D.plainU, prune, envOf, get, put, eval, evalT, nz, argsV, capsV, ofV, binV, binV.aggV, unV, intV, eqOp, isConst, natV, optV, loadV, loadC, storeV, St.at_, partV, partTy, indexAddrV, fieldAddrV, sliceV, sliceV.rowSl, sliceV.strSl, bounds, cutP, builtinV, lenV, maxL, maxV, appendV, St.elems, roomy, rowOf, rowS, isStr, esz, tdOf, convV, buildV, fillV, partsV, okParts, fillL, D.whole, D.demoteC, D.demote, demoteL, D.global, D.flat, D.leaf, D.cells, TI.agg, TD.rowish, callOpV, moveL, CC, keepB, St.borrowL, St.borrow, D.isLsl, adoptR, adoptC, adoptCL, adoptL, adopt, List.toArray, Array.toList, Nat.reduceEqDiff, Nat.reduceAdd, Nat.reduceSub, Nat.reduceMul, Nat.reduceLeDiff, Nat.reduceLT, reduceIte, reduceCtorEq, forall_const, imp_self, Int.reduceNeg, Int.reduceLT, Int.reduceLE, Int.reduceGT, Int.reduceGE, Int.reduceAdd, Int.reduceSub, Int.reduceMul, Int.reduceToNat, Int.reduceEq, ne_eq, eq_self]
        refine ⟨_, rfl, ?_⟩
        show an35.at_ (some 7) _ = _
        simp only [an35, ren_map, toks_map, boxes_map, AL, An.at_, tidyV, tidyW, tidyB, tidyT, sift, envBoxes, envToks, conToks, D.toks, D.tok1, toksL, D.boxes, D.box1, boxesL, memN, posN, renE, D.ren, D.ren1, renL, renB, St.content, St.boxOk, St.tokOk, trues, T3, T4, T5, T22, T67, T68, T175, T188, EL, e_finWf, e_finWt, e_finMN, e_finMX, retM, meltV, tupV, D.asBox, D.row1, D.freeR, D.freeO, List.replicate_succ, stepD, accs, accP, accW, simpleOp, isAl, isExt, flipD, D.fresh1, D.row, D.plain, D.plain.plainL, St.close, St.close1, St.borrow, retV, resV, resL, outCL, outC, outL, outD, wantedV, opV, An.mid, thawV, St.settle, D.plainU, prune, envOf, get, put, eval, evalT, nz, argsV, capsV, ofV, binV, binV.aggV, unV, intV, eqOp, isConst, natV, optV, loadV, loadC, storeV, setC, St.at_, partV, partTy, indexAddrV, fieldAddrV, sliceV, sliceV.rowSl, sliceV.strSl, bounds, cutP, builtinV, lenV, maxL, maxV, appendV, St.elems, roomy, rowOf, rowS, isStr, esz, tdOf, convV, buildV, fillV, partsV, okParts, fillL, D.whole, D.demoteC, D.demote, demoteL, D.global, D.flat, D.leaf, D.cells, TI.agg, TD.rowish, callOpV, moveL, CC, keepB, St.borrowL, St.borrow, D.isLsl, adoptR, adoptC, adoptCL, adoptL, adopt, List.toArray, Array.toList, Nat.reduceEqDiff, Nat.reduceAdd, Nat.reduceSub, Nat.reduceMul, Nat.reduceLeDiff, Nat.reduceLT, reduceIte, reduceCtorEq, forall_const, imp_self, Int.reduceNeg, Int.reduceLT, Int.reduceLE, Int.reduceGT, Int.reduceGE, Int.reduceAdd, Int.reduceSub, Int.reduceMul, Int.reduceToNat, Int.reduceEq, ne_eq, eq_self]
      | some r =>
        rw [hx] at c2
        simp only [rfD] at c2 ⊢
        simp only [st35, lp35_0, subC, atC, Tryd.f35, an35, g0, g1, w1, s1, h, h4, c2, set2, pz0, Int.toNat_natCast, AL, T3, T4, T5, T22, T67, T68, T175, T188, EL, e_finWf, e_finWt, e_finMN, e_finMX, retM, meltV, tupV, D.asBox, D.row1, D.freeR, D.freeO, List.replicate_succ, stepD, accs, accP, accW, simpleOp, isAl, isExt, flipD, D.fresh1, D.row, D.plain, D.plain.plainL, St.close, St.close1, St.borrow, retV, resV, resL, outCL, outC, outL, outD, wantedV, opV, An.mid, thawV, St.settle, D.plainU, prune, envOf, get, put, eval, evalT, nz, argsV, capsV, ofV, binV, binV.aggV, unV, intV, eqOp, isConst, natV, optV, loadV, loadC, storeV, St.at_, partV, partTy, indexAddrV, fieldAddrV, sliceV, sliceV.rowSl, sliceV.strSl, bounds, cutP, builtinV, lenV, maxL, maxV, appendV, St.elems, roomy, rowOf, rowS, isStr, esz, tdOf, convV, buildV, fillV, partsV, okParts, fillL, D.whole, D.demoteC, D.demote, demoteL, D.global, D.flat, D.leaf, D.cells, TI.agg, TD.rowish, callOpV, moveL, CC, keepB, St.borrowL, St.borrow, D.isLsl, adoptR, adoptC, adoptCL, adoptL, adopt, List.toArray, Array.toList, Nat.reduceEqDiff, Nat.reduceAdd, Nat.reduceSub, Nat.reduceMul, Nat.reduceLeDiff, Nat.reduceLT, reduceIte, reduceCtorEq, forall_const, imp_self, Int.reduceNeg, Int.reduceLT, Int.reduceLE, Int.reduceGT, Int.reduceGE, Int.reduceAdd, Int.reduceSub, Int.reduceMul, Int.reduceToNat, Int.reduceEq, ne_eq, eq_self]
        refine ⟨_, rfl, ?_⟩
        show an35.at_ (some 7) _ = _
        simp only [an35, ren_map, toks_map, boxes_map, AL, An.at_, tidyV, tidyW, tidyB, tidyT, sift, envBoxes, envToks, conToks, D.toks, D.tok1, toksL, D.boxes, D.box1, boxesL, memN, posN, renE, D.ren, D.ren1, renL, renB, St.content, St.boxOk, St.tokOk, trues, T3, T4, T5, T22, T67, T68, T175, T188, EL, e_finWf, e_finWt, e_finMN, e_finMX, retM, meltV, tupV, D.asBox, D.row1, D.freeR, D.freeO, List.replicate_succ, stepD, accs, accP, accW, simpleOp, isAl, isExt, flipD, D.fresh1, D.row, D.plain, D.plain.plainL, St.close, St.close1, St.borrow, retV, resV, resL, outCL, outC, outL, outD, wantedV, opV, An.mid, thawV, St.settle, D.plainU, prune, envOf, get, put, eval, evalT, nz, argsV, capsV, ofV, binV, binV.aggV, unV, intV, eqOp, isConst, natV, optV, loadV, loadC, storeV, setC, St.at_, partV, partTy, indexAddrV, fieldAddrV, sliceV, sliceV.rowSl, sliceV.strSl, bounds, cutP, builtinV, lenV, maxL, maxV, appendV, St.elems, roomy, rowOf, rowS, isStr, esz, tdOf, convV, buildV, fillV, partsV, okParts, fillL, D.whole, D.demoteC, D.demote, demoteL, D.global, D.flat, D.leaf, D.cells, TI.agg, TD.rowish, callOpV, moveL, CC, keepB, St.borrowL, St.borrow, D.isLsl, adoptR, adoptC, adoptCL, adoptL, adopt, List.toArray, Array.toList, Nat.reduceEqDiff, Nat.reduceAdd, Nat.reduceSub, Nat.reduceMul, Nat.reduceLeDiff, Nat.reduceLT, reduceIte, reduceCtorEq, forall_const, imp_self, Int.reduceNeg, Int.reduceLT, Int.reduceLE, Int.reduceGT, Int.reduceGE, Int.reduceAdd, Int.reduceSub, Int.reduceMul, Int.reduceToNat, Int.reduceEq, ne_eq, eq_self]
  · right
    obtain rfl : k = 5 := by omega
    simp only [st35, lp35_0, subC, atC, Tryd.f35, an35, nlit, T3, T4, T5, T22, T67, T68, T175, T188, EL, e_finWf, e_finWt, e_finMN, e_finMX, retM, meltV, tupV, D.asBox, D.row1, D.freeR, D.freeO, List.replicate_succ, stepD, accs, accP, accW, simpleOp, isAl, isExt, flipD, D.fresh1, D.row, D.plain, D.plain.plainL, St.close, St.close1, St.borrow, retV, resV, resL, outCL, outC, outL, outD, wantedV, opV, An.mid, thawV, St.settle, D.plainU, prune, envOf, get, put, eval, evalT, nz, argsV, capsV, ofV, binV, binV.aggV, unV, intV, eqOp, isConst, natV, optV, loadV, loadC, storeV, setC, St.at_, partV, partTy, indexAddrV, fieldAddrV, sliceV, sliceV.rowSl, sliceV.strSl, bounds, cutP, builtinV, lenV, maxL, maxV, appendV, St.elems, roomy, rowOf, rowS, isStr, esz, tdOf, convV, buildV, fillV, partsV, okParts, fillL, D.whole, D.demoteC, D.demote, demoteL, D.global, D.flat, D.leaf, D.cells, TI.agg, TD.rowish, callOpV, moveL, CC, keepB, St.borrowL, St.borrow, D.isLsl, adoptR, adoptC, adoptCL, adoptL, adopt, List.toArray, Array.toList, Nat.reduceEqDiff, Nat.reduceAdd, Nat.reduceSub, Nat.reduceMul, Nat.reduceLeDiff, Nat.reduceLT, reduceIte, reduceCtorEq, forall_const, imp_self, Int.reduceNeg, Int.reduceLT, Int.reduceLE, Int.reduceGT, Int.reduceGE, Int.reduceAdd, Int.reduceSub, Int.reduceMul, Int.reduceToNat, Int.reduceEq, ne_eq, eq_self]
    exact ⟨_, _, rfl, by simp, rfl, _, rfl, rfl, rfl, rfl, rfl⟩

theorem rd_of (hC : Lib19 C) (s : RS) : ∀ B, C 97 [.agg (match s with | some l => [.vec 1 (l.map byteD) .none, .bool false] | .none => [.vec 1 [] .none, .bool true])] B = some (.bool (decide (s = some [])), B) := fun B => by
  rcases s with _ | _ | ⟨c, l⟩
  · exact c97 hC.toLibPackB [] true B
  · exact c97 hC.toLibPackB [] false B
  · exact c97 hC.toLibPackB (c :: l) false B

set_option maxRecDepth 10000 in
theorem run35_bad (hC : Lib19 C) (l : List UInt8) (e : Nat) (he : e ≠ 0) (B : Hp) (hop : ∀ B, C 95 [.vec 1 (l.map byteD) .none] B = some (.tuple [.int .u8 0, .vec 1 [] .fresh, .int .i64 (e : Nat)], B)) :
    runV T C fi35 [byV l .none] B = some (.tuple [hd0.D, .int .i64 (e : Nat)], B) := by
  rw [e_run _ _ _ rfl]
  have g0 : ¬ (e : Int) = 0 := by omega
  rw [hd0_D]
  simp only [fi35, Tryd.f35, an35, hop, g0, T3, T4, T5, T22, T67, T68, T175, T188, EL, e_finWf, e_finWt, e_finMN, e_finMX, retM, meltV, tupV, D.asBox, D.row1, D.freeR, D.freeO, List.replicate_succ, stepD, accs, accP, accW, simpleOp, isAl, isExt, flipD, D.fresh1, D.row, D.plain, D.plain.plainL, St.close, St.close1, St.borrow, retV, resV, resL, outCL, outC, outL, outD, wantedV, opV, An.mid, thawV, St.settle, D.plainU, prune, envOf, get, put, eval, evalT, nz, argsV, capsV, ofV, binV, binV.aggV, unV, intV, eqOp, isConst, natV, optV, loadV, loadC, storeV, setC, St.at_, partV, partTy, indexAddrV, fieldAddrV, sliceV, sliceV.rowSl, sliceV.strSl, bounds, cutP, builtinV, lenV, maxL, maxV, appendV, St.elems, roomy, rowOf, rowS, isStr, esz, tdOf, convV, buildV, fillV, partsV, okParts, fillL, D.whole, D.demoteC, D.demote, demoteL, D.global, D.flat, D.leaf, D.cells, TI.agg, TD.rowish, callOpV, moveL, CC, keepB, St.borrowL, St.borrow, D.isLsl, adoptR, adoptC, adoptCL, adoptL, adopt, List.toArray, Array.toList, Nat.reduceEqDiff, Nat.reduceAdd, Nat.reduceSub, Nat.reduceMul, Nat.reduceLeDiff, Nat.reduceLT, reduceIte, reduceCtorEq, forall_const, imp_self, Int.reduceNeg, Int.reduceLT, Int.reduceLE, Int.reduceGT, Int.reduceGE, Int.reduceAdd, Int.reduceSub, Int.reduceMul, Int.reduceToNat, Int.reduceEq, ne_eq, eq_self]

theorem loadH_ref2 {l : List UInt8} {s : RS} {v1 v2 v3 v4 v5 : Nat} (h : five l big big = (s, v1, v2, v3, v4, v5)) : loadH l = if s = some [] ∧ v4 ≤ 1023 ∧ v5 ≤ 4096 ∧ (Hd.mk v1 v2 v3 (v4 : Nat) (v5 : Nat)).may = true then some (Hd.mk v1 v2 v3 (v4 : Nat) (v5 : Nat)) else .none := by
  rw [loadH_ref l]
  by_cases c : s = some [] ∧ v4 ≤ 1023 ∧ v5 ≤ 4096 ∧ (Hd.mk v1 v2 v3 (v4 : Nat) (v5 : Nat)).may = true
  · rw [if_pos c, if_pos (by rw [h]; exact c), h]; rfl
  · rw [if_neg c, if_neg (by rw [h]; exact c)]

/-- The document's way to tell. -/
theorem dec_ref {l : List UInt8} (h1 : l.length = 512) (h2 : isL l = true) (h3 : okO l = true) :
    decE l = (if bO l 0 = 4 ∧ seqR (ldO l) 5 = some [] ∧ valR (ldO l) 3 ≤ 1023 ∧ valR (ldO l) 4 ≤ 4096 ∧ (Hd.mk (valR (ldO l) 0) (valR (ldO l) 1) (valR (ldO l) 2) (valR (ldO l) 3 : Nat) (valR (ldO l) 4 : Nat)).may = true then 0 else 3) ∧
    decH l = (if bO l 0 = 4 ∧ seqR (ldO l) 5 = some [] ∧ valR (ldO l) 3 ≤ 1023 ∧ valR (ldO l) 4 ≤ 4096 ∧ (Hd.mk (valR (ldO l) 0) (valR (ldO l) 1) (valR (ldO l) 2) (valR (ldO l) 3 : Nat) (valR (ldO l) 4 : Nat)).may = true then (Hd.mk (valR (ldO l) 0) (valR (ldO l) 1) (valR (ldO l) 2) (valR (ldO l) 3 : Nat) (valR (ldO l) 4 : Nat)) else hd0) := by
  have hr := loadH_ref2 (five_seq (ldO l))
  have he : decE l = (if bO l 0 = 4 ∧ seqR (ldO l) 5 = some [] ∧ valR (ldO l) 3 ≤ 1023 ∧ valR (ldO l) 4 ≤ 4096 ∧ (Hd.mk (valR (ldO l) 0) (valR (ldO l) 1) (valR (ldO l) 2) (valR (ldO l) 3 : Nat) (valR (ldO l) 4 : Nat)).may = true then 0 else 3) := by
    unfold decE
    rw [if_pos h1, if_pos h2, if_pos h3, hr]
    by_cases h4 : bO l 0 = 4
    · by_cases h5 : seqR (ldO l) 5 = some [] ∧ valR (ldO l) 3 ≤ 1023 ∧ valR (ldO l) 4 ≤ 4096 ∧ (Hd.mk (valR (ldO l) 0) (valR (ldO l) 1) (valR (ldO l) 2) (valR (ldO l) 3 : Nat) (valR (ldO l) 4 : Nat)).may = true
      · rw [if_pos h4, if_pos h5, if_pos ⟨h4, h5⟩]
      · rw [if_pos h4, if_neg h5, if_neg (fun h => h5 h.2)]
    · rw [if_neg h4, if_neg (fun h => h4 h.1)]
  refine ⟨he, ?_⟩
  unfold decH
  rw [he, hr]
  by_cases h5 : bO l 0 = 4 ∧ seqR (ldO l) 5 = some [] ∧ valR (ldO l) 3 ≤ 1023 ∧ valR (ldO l) 4 ≤ 4096 ∧ (Hd.mk (valR (ldO l) 0) (valR (ldO l) 1) (valR (ldO l) 2) (valR (ldO l) 3 : Nat) (valR (ldO l) 4 : Nat)).may = true
  · rw [if_pos h5, if_pos rfl, if_pos h5.2, if_pos h5]; rfl
  · rw [if_neg h5, if_neg (by decide), if_neg h5]

theorem valR_lt (l : List UInt8) (k : Nat) : valR l k ≤ 4611686018427387904 := (numP_bnd (seqR l k) big).1

set_option maxRecDepth 20000 in
set_option maxHeartbeats 4000000 in
theorem run35_ok (hC : Lib19 C) (l : List UInt8) (h1 : l.length = 512) (h2 : isL l = true) (h3 : okO l = true) (B : Hp) :
    runV T C fi35 [byV l .none] B = some (.tuple [(decH l).D, .int .i64 (decE l : Nat)], B) := by
  rw [e_run _ _ _ rfl]
  obtain ⟨ee, eh⟩ := dec_ref h1 h2 h3
  have hlen := ldO_len l h1
  have c1 := ro_ok hC.toLib05 l h1 h2 h3
  have lp := loop35 hC B (bO l 0).toNat (ldO l) (by omega)
  have z5 : [D.int .u64 0, D.int .u64 0, D.int .u64 0, D.int .u64 0, D.int .u64 0] = nums .u64 5 (memR (ldO l) 0) := rfl
  have r0 := rd_of hC (seqR (ldO l) 5)
  rw [ee, eh]
  simp only [fi35, Tryd.f35, an35, c1, T3, T4, T5, T22, T67, T68, T175, T188, EL, e_finWf, e_finWt, e_finMN, e_finMX, retM, meltV, tupV, D.asBox, D.row1, D.freeR, D.freeO, List.replicate_succ, stepD, accs, accP, accW, simpleOp, isAl, isExt, flipD, D.fresh1, D.row, D.plain, D.plain.plainL, St.close, St.close1, St.borrow, retV, resV, resL, outCL, outC, outL, outD, wantedV, opV, An.mid, thawV, St.settle, D.plainU, prune, envOf, get, put, eval, evalT, nz, argsV, capsV, ofV, binV, binV.aggV, unV, intV, eqOp, isConst, natV, optV, loadV, loadC, storeV, setC, St.at_, partV, partTy, indexAddrV, fieldAddrV, sliceV, sliceV.rowSl, sliceV.strSl, bounds, cutP, builtinV, lenV, maxL, maxV, appendV, St.elems, roomy, rowOf, rowS, isStr, esz, tdOf, convV, buildV, fillV, partsV, okParts, fillL, D.whole, D.demoteC, D.demote, demoteL, D.global, D.flat, D.leaf, D.cells, TI.agg, TD.rowish, callOpV, moveL, CC, keepB, St.borrowL, St.borrow, D.isLsl, adoptR, adoptC, adoptCL, adoptL, adopt, List.toArray, Array.toList, Nat.reduceEqDiff, Nat.reduceAdd, Nat.reduceSub, Nat.reduceMul, Nat.reduceLeDiff, Nat.reduceLT, reduceIte, reduceCtorEq, forall_const, imp_self, Int.reduceNeg, Int.reduceLT, Int.reduceLE, Int.reduceGT, Int.reduceGE, Int.reduceAdd, Int.reduceSub, Int.reduceMul, Int.reduceToNat, Int.reduceEq, ne_eq, eq_self]
  refine' in_loop (c' := lp35_0) (fin T _ _ _) ?h rfl ?q
  case h =>
    refine lp _ ?_
    simp only [an35, ren_map, toks_map, boxes_map, st35, pz0, An.at_, tidyV, tidyW, tidyB, tidyT, sift, envBoxes, envToks, conToks, D.toks, D.tok1, toksL, D.boxes, D.box1, boxesL, memN, posN, renE, D.ren, D.ren1, renL, renB, St.content, St.boxOk, St.tokOk, trues, T3, T4, T5, T22, T67, T68, T175, T188, EL, e_finWf, e_finWt, e_finMN, e_finMX, retM, meltV, tupV, D.asBox, D.row1, D.freeR, D.freeO, List.replicate_succ, stepD, accs, accP, accW, simpleOp, isAl, isExt, flipD, D.fresh1, D.row, D.plain, D.plain.plainL, St.close, St.close1, St.borrow, retV, resV, resL, outCL, outC, outL, outD, wantedV, opV, An.mid, thawV, St.settle, D.plainU, prune, envOf, get, put, eval, evalT, nz, argsV, capsV, ofV, binV, binV.aggV, unV, intV, eqOp, isConst, natV, optV, loadV, loadC, storeV, setC, St.at_, partV, partTy, indexAddrV, fieldAddrV, sliceV, sliceV.rowSl, sliceV.strSl, bounds, cutP, builtinV, lenV, maxL, maxV, appendV, St.elems, roomy, rowOf, rowS, isStr, esz, tdOf, convV, buildV, fillV, partsV, okParts, fillL, D.whole, D.demoteC, D.demote, demoteL, D.global, D.flat, D.leaf, D.cells, TI.agg, TD.rowish, callOpV, moveL, CC, keepB, St.borrowL, St.borrow, D.isLsl, adoptR, adoptC, adoptCL, adoptL, adopt, List.toArray, Array.toList, Nat.reduceEqDiff, Nat.reduceAdd, Nat.reduceSub, Nat.reduceMul, Nat.reduceLeDiff, Nat.reduceLT, reduceIte, reduceCtorEq, forall_const, imp_self, Int.reduceNeg, Int.reduceLT, Int.reduceLE, Int.reduceGT, Int.reduceGE, Int.reduceAdd, Int.reduceSub, Int.reduceMul, Int.reduceToNat, Int.reduceEq, ne_eq, eq_self]
    all_goals rfl
  rintro x st' ⟨rfl, ρ, rfl, r2, r4, r7, r8⟩
  clear lp
  have k0 := valR_lt (ldO l) 0
  have k1 := valR_lt (ldO l) 1
  have k2 := valR_lt (ldO l) 2
  have k3 := valR_lt (ldO l) 3
  have k4 := valR_lt (ldO l) 4
  have ev : nums .u64 5 (memR (ldO l) 5) = [.int .u64 (valR (ldO l) 0 : Nat), .int .u64 (valR (ldO l) 1 : Nat), .int .u64 (valR (ldO l) 2 : Nat), .int .u64 (valR (ldO l) 3 : Nat), .int .u64 (valR (ldO l) 4 : Nat)] := rfl
  rw [ev]
  generalize valR (ldO l) 0 = v1 at *
  generalize valR (ldO l) 1 = v2 at *
  generalize valR (ldO l) 2 = v3 at *
  generalize valR (ldO l) 3 = v4 at *
  generalize valR (ldO l) 4 = v5 at *
  generalize seqR (ldO l) 5 = s5 at *
  have m1 := fun B => c40 hC ⟨v1, v2, v3, (v4 : Nat), (v5 : Nat)⟩ B
  unfold Hd.D at m1
  simp only at m1
  by_cases g0 : bO l 0 = 4 <;> have g1 := g0 <;> rw [u8_four] at g1
  · by_cases g2 : s5 = some []
    · subst g2
      simp only [decide_true, List.map_nil] at r0
      by_cases g3 : v4 ≤ 1023
      · have g4 : ¬ (v4 : Int) > 1023 := by omega
        by_cases g5 : v5 ≤ 4096
        · have g6 : ¬ (v5 : Int) > 4096 := by omega
          have w4 : IntKind.i64.wrap (v4 : Int) = v4 := wrapI (by omega) (by omega)
          have w5 : IntKind.i64.wrap (v5 : Int) = v5 := wrapI (by omega) (by omega)
          cases hm : (Hd.mk v1 v2 v3 (v4 : Nat) (v5 : Nat)).may with
          | true =>
            rw [hm] at m1
            rw [if_pos ⟨g0, rfl, g3, g5, rfl⟩, if_pos ⟨g0, rfl, g3, g5, rfl⟩]
            unfold Hd.D
            simp only [r2, r4, r7, r8, rfL, tkR, r0, m1, g1, g4, g6, w4, w5, pz0, T3, T4, T5, T22, T67, T68, T175, T188, EL, e_finWf, e_finWt, e_finMN, e_finMX, retM, meltV, tupV, D.asBox, D.row1, D.freeR, D.freeO, List.replicate_succ, stepD, accs, accP, accW, simpleOp, isAl, isExt, flipD, D.fresh1, D.row, D.plain, D.plain.plainL, St.close, St.close1, St.borrow, retV, resV, resL, outCL, outC, outL, outD, wantedV, opV, An.mid, thawV, St.settle, D.plainU, prune, envOf, get, put, eval, evalT, nz, argsV, capsV, ofV, binV, binV.aggV, unV, intV, eqOp, isConst, natV, optV, loadV, loadC, storeV, setC, St.at_, partV, partTy, indexAddrV, fieldAddrV, sliceV, sliceV.rowSl, sliceV.strSl, bounds, cutP, builtinV, lenV, maxL, maxV, appendV, St.elems, roomy, rowOf, rowS, isStr, esz, tdOf, convV, buildV, fillV, partsV, okParts, fillL, D.whole, D.demoteC, D.demote, demoteL, D.global, D.flat, D.leaf, D.cells, TI.agg, TD.rowish, callOpV, moveL, CC, keepB, St.borrowL, St.borrow, D.isLsl, adoptR, adoptC, adoptCL, adoptL, adopt, List.toArray, Array.toList, Nat.reduceEqDiff, Nat.reduceAdd, Nat.reduceSub, Nat.reduceMul, Nat.reduceLeDiff, Nat.reduceLT, reduceIte, reduceCtorEq, forall_const, imp_self, Int.reduceNeg, Int.reduceLT, Int.reduceLE, Int.reduceGT, Int.reduceGE, Int.reduceAdd, Int.reduceSub, Int.reduceMul, Int.reduceToNat, Int.reduceEq, ne_eq, eq_self]
          | false =>
            rw [hm] at m1
            rw [if_neg (fun h => by cases h.2.2.2.2), if_neg (fun h => by cases h.2.2.2.2), hd0_D]
            simp only [r2, r4, r7, r8, rfL, tkR, r0, m1, g1, g4, g6, w4, w5, nlit, T3, T4, T5, T22, T67, T68, T175, T188, EL, e_finWf, e_finWt, e_finMN, e_finMX, retM, meltV, tupV, D.asBox, D.row1, D.freeR, D.freeO, List.replicate_succ, stepD, accs, accP, accW, simpleOp, isAl, isExt, flipD, D.fresh1, D.row, D.plain, D.plain.plainL, St.close, St.close1, St.borrow, retV, resV, resL, outCL, outC, outL, outD, wantedV, opV, An.mid, thawV, St.settle, D.plainU, prune, envOf, get, put, eval, evalT, nz, argsV, capsV, ofV, binV, binV.aggV, unV, intV, eqOp, isConst, natV, optV, loadV, loadC, storeV, setC, St.at_, partV, partTy, indexAddrV, fieldAddrV, sliceV, sliceV.rowSl, sliceV.strSl, bounds, cutP, builtinV, lenV, maxL, maxV, appendV, St.elems, roomy, rowOf, rowS, isStr, esz, tdOf, convV, buildV, fillV, partsV, okParts, fillL, D.whole, D.demoteC, D.demote, demoteL, D.global, D.flat, D.leaf, D.cells, TI.agg, TD.rowish, callOpV, moveL, CC, keepB, St.borrowL, St.borrow, D.isLsl, adoptR, adoptC, adoptCL, adoptL, adopt, List.toArray, Array.toList, Nat.reduceEqDiff, Nat.reduceAdd, Nat.reduceSub, Nat.reduceMul, Nat.reduceLeDiff, Nat.reduceLT, reduceIte, reduceCtorEq, forall_const, imp_self, Int.reduceNeg, Int.reduceLT, Int.reduceLE, Int.reduceGT, Int.reduceGE, Int.reduceAdd, Int.reduceSub, Int.reduceMul, Int.reduceToNat, Int.reduceEq, ne_eq, eq_self]
        · have g6 : (v5 : Int) > 4096 := by omega
          rw [if_neg (fun h => g5 h.2.2.2.1), if_neg (fun h => g5 h.2.2.2.1), hd0_D]
          simp only [r2, r4, r7, r8, rfL, tkR, r0, g1, g4, g6, nlit, T3, T4, T5, T22, T67, T68, T175, T188, EL, e_finWf, e_finWt, e_finMN, e_finMX, retM, meltV, tupV, D.asBox, D.row1, D.freeR, D.freeO, List.replicate_succ, stepD, accs, accP, accW, simpleOp, isAl, isExt, flipD, D.fresh1, D.row, D.plain, D.plain.plainL, St.close, St.close1, St.borrow, retV, resV, resL, outCL, outC, outL, outD, wantedV, opV, An.mid, thawV, St.settle, D.plainU, prune, envOf, get, put, eval, evalT, nz, argsV, capsV, ofV, binV, binV.aggV, unV, intV, eqOp, isConst, natV, optV, loadV, loadC, storeV, setC, St.at_, partV, partTy, indexAddrV, fieldAddrV, sliceV, sliceV.rowSl, sliceV.strSl, bounds, cutP, builtinV, lenV, maxL, maxV, appendV, St.elems, roomy, rowOf, rowS, isStr, esz, tdOf, convV, buildV, fillV, partsV, okParts, fillL, D.whole, D.demoteC, D.demote, demoteL, D.global, D.flat, D.leaf, D.cells, TI.agg, TD.rowish, callOpV, moveL, CC, keepB, St.borrowL, St.borrow, D.isLsl, adoptR, adoptC, adoptCL, adoptL, adopt, List.toArray, Array.toList, Nat.reduceEqDiff, Nat.reduceAdd, Nat.reduceSub, Nat.reduceMul, Nat.reduceLeDiff, Nat.reduceLT, reduceIte, reduceCtorEq, forall_const, imp_self, Int.reduceNeg, Int.reduceLT, Int.reduceLE, Int.reduceGT, Int.reduceGE, Int.reduceAdd, Int.reduceSub, Int.reduceMul, Int.reduceToNat, Int.reduceEq, ne_eq, eq_self]
      · have g4 : (v4 : Int) > 1023 := by omega
        rw [if_neg (fun h => g3 h.2.2.1), if_neg (fun h => g3 h.2.2.1), hd0_D]
        simp only [r2, r4, r7, r8, rfL, tkR, r0, g1, g4, nlit, T3, T4, T5, T22, T67, T68, T175, T188, EL, e_finWf, e_finWt, e_finMN, e_finMX, retM, meltV, tupV, D.asBox, D.row1, D.freeR, D.freeO, List.replicate_succ, stepD, accs, accP, accW, simpleOp, isAl, isExt, flipD, D.fresh1, D.row, D.plain, D.plain.plainL, St.close, St.close1, St.borrow, retV, resV, resL, outCL, outC, outL, outD, wantedV, opV, An.mid, thawV, St.settle, D.plainU, prune, envOf, get, put, eval, evalT, nz, argsV, capsV, ofV, binV, binV.aggV, unV, intV, eqOp, isConst, natV, optV, loadV, loadC, storeV, setC, St.at_, partV, partTy, indexAddrV, fieldAddrV, sliceV, sliceV.rowSl, sliceV.strSl, bounds, cutP, builtinV, lenV, maxL, maxV, appendV, St.elems, roomy, rowOf, rowS, isStr, esz, tdOf, convV, buildV, fillV, partsV, okParts, fillL, D.whole, D.demoteC, D.demote, demoteL, D.global, D.flat, D.leaf, D.cells, TI.agg, TD.rowish, callOpV, moveL, CC, keepB, St.borrowL, St.borrow, D.isLsl, adoptR, adoptC, adoptCL, adoptL, adopt, List.toArray, Array.toList, Nat.reduceEqDiff, Nat.reduceAdd, Nat.reduceSub, Nat.reduceMul, Nat.reduceLeDiff, Nat.reduceLT, reduceIte, reduceCtorEq, forall_const, imp_self, Int.reduceNeg, Int.reduceLT, Int.reduceLE, Int.reduceGT, Int.reduceGE, Int.reduceAdd, Int.reduceSub, Int.reduceMul, Int.reduceToNat, Int.reduceEq, ne_eq, eq_self]
    · rw [decide_eq_false g2] at r0
      rw [if_neg (fun h => g2 h.2.1), if_neg (fun h => g2 h.2.1), hd0_D]
      cases s5 with
      | none =>
        simp only at r0
        simp only [r2, r4, r7, r8, rfL, tkR, r0, g1, nlit, T3, T4, T5, T22, T67, T68, T175, T188, EL, e_finWf, e_finWt, e_finMN, e_finMX, retM, meltV, tupV, D.asBox, D.row1, D.freeR, D.freeO, List.replicate_succ, stepD, accs, accP, accW, simpleOp, isAl, isExt, flipD, D.fresh1, D.row, D.plain, D.plain.plainL, St.close, St.close1, St.borrow, retV, resV, resL, outCL, outC, outL, outD, wantedV, opV, An.mid, thawV, St.settle, D.plainU, prune, envOf, get, put, eval, evalT, nz, argsV, capsV, ofV, binV, binV.aggV, unV, intV, eqOp, isConst, natV, optV, loadV, loadC, storeV, setC, St.at_, partV, partTy, indexAddrV, fieldAddrV, sliceV, sliceV.rowSl, sliceV.strSl, bounds, cutP, builtinV, lenV, maxL, maxV, appendV, St.elems, roomy, rowOf, rowS, isStr, esz, tdOf, convV, buildV, fillV, partsV, okParts, fillL, D.whole, D.demoteC, D.demote, demoteL, D.global, D.flat, D.leaf, D.cells, TI.agg, TD.rowish, callOpV, moveL, CC, keepB, St.borrowL, St.borrow, D.isLsl, adoptR, adoptC, adoptCL, adoptL, adopt, List.toArray, Array.toList, Nat.reduceEqDiff, Nat.reduceAdd, Nat.reduceSub, Nat.reduceMul, Nat.reduceLeDiff, Nat.reduceLT, reduceIte, reduceCtorEq, forall_const, imp_self, Int.reduceNeg, Int.reduceLT, Int.reduceLE, Int.reduceGT, Int.reduceGE, Int.reduceAdd, Int.reduceSub, Int.reduceMul, Int.reduceToNat, Int.reduceEq, ne_eq, eq_self]
      | some q =>
        simp only at r0
        simp only [r2, r4, r7, r8, rfL, tkR, r0, g1, nlit, T3, T4, T5, T22, T67, T68, T175, T188, EL, e_finWf, e_finWt, e_finMN, e_finMX, retM, meltV, tupV, D.asBox, D.row1, D.freeR, D.freeO, List.replicate_succ, stepD, accs, accP, accW, simpleOp, isAl, isExt, flipD, D.fresh1, D.row, D.plain, D.plain.plainL, St.close, St.close1, St.borrow, retV, resV, resL, outCL, outC, outL, outD, wantedV, opV, An.mid, thawV, St.settle, D.plainU, prune, envOf, get, put, eval, evalT, nz, argsV, capsV, ofV, binV, binV.aggV, unV, intV, eqOp, isConst, natV, optV, loadV, loadC, storeV, setC, St.at_, partV, partTy, indexAddrV, fieldAddrV, sliceV, sliceV.rowSl, sliceV.strSl, bounds, cutP, builtinV, lenV, maxL, maxV, appendV, St.elems, roomy, rowOf, rowS, isStr, esz, tdOf, convV, buildV, fillV, partsV, okParts, fillL, D.whole, D.demoteC, D.demote, demoteL, D.global, D.flat, D.leaf, D.cells, TI.agg, TD.rowish, callOpV, moveL, CC, keepB, St.borrowL, St.borrow, D.isLsl, adoptR, adoptC, adoptCL, adoptL, adopt, List.toArray, Array.toList, Nat.reduceEqDiff, Nat.reduceAdd, Nat.reduceSub, Nat.reduceMul, Nat.reduceLeDiff, Nat.reduceLT, reduceIte, reduceCtorEq, forall_const, imp_self, Int.reduceNeg, Int.reduceLT, Int.reduceLE, Int.reduceGT, Int.reduceGE, Int.reduceAdd, Int.reduceSub, Int.reduceMul, Int.reduceToNat, Int.reduceEq, ne_eq, eq_self]
  · rw [if_neg (fun h => g0 h.1), if_neg (fun h => g0 h.1), hd0_D]
    simp only [r2, r4, r7, r8, g1, nlit, T3, T4, T5, T22, T67, T68, T175, T188, EL, e_finWf, e_finWt, e_finMN, e_finMX, retM, meltV, tupV, D.asBox, D.row1, D.freeR, D.freeO, List.replicate_succ, stepD, accs, accP, accW, simpleOp, isAl, isExt, flipD, D.fresh1, D.row, D.plain, D.plain.plainL, St.close, St.close1, St.borrow, retV, resV, resL, outCL, outC, outL, outD, wantedV, opV, An.mid, thawV, St.settle, D.plainU, prune, envOf, get, put, eval, evalT, nz, argsV, capsV, ofV, binV, binV.aggV, unV, intV, eqOp, isConst, natV, optV, loadV, loadC, storeV, setC, St.at_, partV, partTy, indexAddrV, fieldAddrV, sliceV, sliceV.rowSl, sliceV.strSl, bounds, cutP, builtinV, lenV, maxL, maxV, appendV, St.elems, roomy, rowOf, rowS, isStr, esz, tdOf, convV, buildV, fillV, partsV, okParts, fillL, D.whole, D.demoteC, D.demote, demoteL, D.global, D.flat, D.leaf, D.cells, TI.agg, TD.rowish, callOpV, moveL, CC, keepB, St.borrowL, St.borrow, D.isLsl, adoptR, adoptC, adoptCL, adoptL, adopt, List.toArray, Array.toList, Nat.reduceEqDiff, Nat.reduceAdd, Nat.reduceSub, Nat.reduceMul, Nat.reduceLeDiff, Nat.reduceLT, reduceIte, reduceCtorEq, forall_const, imp_self, Int.reduceNeg, Int.reduceLT, Int.reduceLE, Int.reduceGT, Int.reduceGE, Int.reduceAdd, Int.reduceSub, Int.reduceMul, Int.reduceToNat, Int.reduceEq, ne_eq, eq_self]

theorem run35 (hC : Lib19 C) (l : List UInt8) (B : Hp) : runV T C fi35 [byV l .none] B = some (.tuple [(decH l).D, .int .i64 (decE l : Nat)], B) := by
  have hL := hC.toLib05
  by_cases h1 : l.length = 512
  · cases h2 : isL l with
    | false =>
      have e : decE l = 4 := by unfold decE; rw [if_pos h1, h2]; rfl
      rw [dec_bad (by rw [e]; decide), e]
      exact run35_bad hC l 4 (by decide) B (ro_sum hL l h1 h2)
    | true =>
      cases h3 : okO l with
      | false =>
        have e : decE l = 3 := by unfold decE; rw [if_pos h1, if_pos h2, h3]; rfl
        rw [dec_bad (by rw [e]; decide), e]
        exact run35_bad hC l 3 (by decide) B (ro_bad hL l h1 h2 h3)
      | true => exact run35_ok hC l h1 h2 h3 B
  · have e : decE l = 3 := by unfold decE; rw [if_neg h1]
    rw [dec_bad (by rw [e]; decide), e]
    exact run35_bad hC l 3 (by decide) B (ro_len hL l h1)
theorem c35 (hC : Lib19 C) (l : List UInt8) (B : Hp) : C 35 [.vec 1 (l.map byteD) .none] B = some (.tuple [(decH l).D, .int .i64 (decE l : Nat)], B) := hC.f35 _ _ _ (run35 hC l B)

end Go.Proofs.YtnhelkclkdfndaaDoor.V
