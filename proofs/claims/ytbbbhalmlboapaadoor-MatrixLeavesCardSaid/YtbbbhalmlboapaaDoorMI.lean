/-
Layer 31: MatrixParts.
-/
import Derived.Test.YtbbbhalmlboapaaDoorMH
namespace Go.Proofs.YtbbbhalmlboapaaDoor.V
open Go Go.RowKit
set_option linter.unusedSimpArgs false
set_option linter.unusedVariables false

variable {C : Callees}

/-- Pairs of bytes. -/
abbrev pairD (x : Nat × Nat) : D := .agg [.int .u8 (x.1 : Nat), .int .u8 (x.2 : Nat)]
abbrev pairs (l : List (Nat × Nat)) : D := .vec 2 (l.map pairD) .none

def st6 (B : Hp) (l : List (Nat × Nat)) (x : Nat × (Nat → Nat)) : St := ⟨[(0, pairs l), (3, .lptr 0 0), (4, .int .i64 x.1)], [some (nums .u16 16 x.2)], [], B⟩
/-- All is well so far. -/
def Okm (m : Nat → Nat) : Prop := Bnd m ∧ May m

set_option maxRecDepth 10000 in
set_option maxHeartbeats 4000000 in
theorem loop6 (hC : Known31 C) (B : Hp) (l : List (Nat × Nat)) (hl : l.length ≤ 9223372036854775807) (hb : ∀ x, x ∈ l → x.1 < 256 ∧ x.2 < 256) (st : St) (hst : an6.at_ (some 3) st = st6 B l (0, zM)) :
    ∃ x st', loopC T an6 C lp6_0 st = some (x, st') ∧ x = .exit 0 ∧ ∃ ρ m L, st' = ⟨ρ, some (nums .u16 16 m) :: L, [], B⟩ ∧ Okm m ∧ get ρ 3 = .lptr 0 0 := by
  have hL := hC.toLib31
  have n0 := num0 hC
  have n1 := num1 hC
  refine loop_rule (st6 B l) (fun x => x.1 ≤ l.length ∧ Okm x.2) (fun x => l.length - x.1) _ ?_ (0, zM) st hst ⟨Nat.zero_le _, bnd_z, may_z⟩
  rintro ⟨i, m⟩ ⟨hi, hm, hM⟩
  simp only at hi hm hM
  have hM' := mayM_t.2 hM
  rcases Nat.lt_or_ge i l.length with h | h
  · have g0 : (i : Int) < l.length := by omega
    by_cases h60 : (i : Int) < 60
    · left
      obtain ⟨⟨x, y⟩, hxy⟩ : ∃ xy, l[i]? = some xy := ⟨_, List.getElem?_eq_getElem h⟩
      have hm1 := hb _ (List.mem_of_getElem? hxy)
      simp only at hm1
      have g1 : (l.map pairD)[i]? = some (pairD (x, y)) := by rw [List.getElem?_map, hxy]; rfl
      have n2 := nat0 i
      have t1 := tmod16 x
      have t2 := tmod16 y
      have w1 : IntKind.i64.wrap ((x % 16 : Nat) : Int) = ((x % 16 : Nat) : Int) := wrapI (by omega) (by omega)
      have w2 : IntKind.i64.wrap ((y % 16 : Nat) : Int) = ((y % 16 : Nat) : Int) := wrapI (by omega) (by omega)
      have w3 : IntKind.i64.wrap ((i : Int) + 1) = ((i + 1 : Nat) : Int) := by rw [wrapI (by omega) (by omega)]; rfl
      have hp : x % 16 < 16 := by omega
      have hq : y % 16 < 16 := by omega
      generalize x % 16 = p at *
      generalize y % 16 = q at *
      have w4 : IntKind.u64.wrap (p : Int) = p := wrap_u64 (by omega) (by omega)
      have l4 : ¬ (p : Int) < 0 := by omega
      have sh := shl_u16 hp
      by_cases h1 : (x : Int) ≥ 224
      · refine ⟨(i + 1, lve m p), ?_, ⟨by show i + 1 ≤ l.length; omega, lve_bnd hm, may_lve hm hM hp⟩, by show l.length - (i + 1) < l.length - i; omega⟩
        have c1 := lv_t hL hm hp hM'
        have c2 := gr_t hL (lve_bnd (a := p) hm) hp (mayM_t.2 (may_lve hm hM hp))
        rw [grp_lve hm hp] at c2
        simp only [st6, lp6_0, subC, atC, Tryd.f6, an6, g0, h60, g1, n2, t1, t2, w1, w2, w3, w4, l4, sh, h1, c1, c2, n0, n1, AL, T3, T4, T5, T24, T39, T42, T59, T62, T63, EL, List.replicate_succ, stepD, accs, accP, accW, simpleOp, isAl, isExt, flipD, D.fresh1, D.row, D.plain, D.plain.plainL, St.close, St.close1, St.borrow, retV, resV, resL, outCL, outC, outL, outD, wantedV, opV, An.mid, thawV, D.plainU, prune, envOf, get, put, eval, evalT, nz, argsV, capsV, ofV, binV, binV.aggV, unV, intV, eqOp, isConst, natV, optV, loadV, loadC, storeV, St.at_, partV, partTy, indexAddrV, fieldAddrV, sliceV, sliceV.rowSl, sliceV.strSl, bounds, cutP, builtinV, lenV, maxL, maxV, appendV, St.elems, roomy, rowOf, rowS, isStr, esz, tdOf, convV, buildV, fillV, partsV, okParts, fillL, D.whole, D.demoteC, D.demote, demoteL, D.global, D.flat, D.leaf, D.cells, TI.agg, TD.rowish, callOpV, moveL, CC, keepB, St.borrowL, St.borrow, D.isLsl, adoptR, adoptC, adoptCL, adoptL, adopt, List.toArray, Array.toList, Nat.reduceEqDiff, Nat.reduceAdd, Nat.reduceSub, Nat.reduceMul, Nat.reduceLeDiff, Nat.reduceLT, reduceIte, reduceCtorEq, forall_const, imp_self, Int.reduceNeg, Int.reduceLT, Int.reduceLE, Int.reduceGT, Int.reduceGE, Int.reduceAdd, Int.reduceSub, Int.reduceMul, Int.reduceToNat, Int.reduceEq, ne_eq, eq_self]
        refine ⟨_, rfl, ?_⟩
        show an6.at_ (some 3) _ = _
        simp only [an6, ren_map, toks_map, boxes_map, AL, An.at_, tidyV, tidyW, tidyB, tidyT, sift, envBoxes, envToks, conToks, D.toks, D.tok1, toksL, D.boxes, D.box1, boxesL, memN, posN, renE, D.ren, D.ren1, renL, renB, St.content, St.boxOk, St.tokOk, trues, T3, T4, T5, T24, T39, T42, T59, T62, T63, EL, List.replicate_succ, stepD, accs, accP, accW, simpleOp, isAl, isExt, flipD, D.fresh1, D.row, D.plain, D.plain.plainL, St.close, St.close1, St.borrow, retV, resV, resL, outCL, outC, outL, outD, wantedV, opV, An.mid, thawV, D.plainU, prune, envOf, get, put, eval, evalT, nz, argsV, capsV, ofV, binV, binV.aggV, unV, intV, eqOp, isConst, natV, optV, loadV, loadC, storeV, setC, St.at_, partV, partTy, indexAddrV, fieldAddrV, sliceV, sliceV.rowSl, sliceV.strSl, bounds, cutP, builtinV, lenV, maxL, maxV, appendV, St.elems, roomy, rowOf, rowS, isStr, esz, tdOf, convV, buildV, fillV, partsV, okParts, fillL, D.whole, D.demoteC, D.demote, demoteL, D.global, D.flat, D.leaf, D.cells, TI.agg, TD.rowish, callOpV, moveL, CC, keepB, St.borrowL, St.borrow, D.isLsl, adoptR, adoptC, adoptCL, adoptL, adopt, List.toArray, Array.toList, Nat.reduceEqDiff, Nat.reduceAdd, Nat.reduceSub, Nat.reduceMul, Nat.reduceLeDiff, Nat.reduceLT, reduceIte, reduceCtorEq, forall_const, imp_self, Int.reduceNeg, Int.reduceLT, Int.reduceLE, Int.reduceGT, Int.reduceGE, Int.reduceAdd, Int.reduceSub, Int.reduceMul, Int.reduceToNat, Int.reduceEq, ne_eq, eq_self]
      · by_cases h2 : (x : Int) ≥ 192
        · by_cases hpq : p = q
          · refine ⟨(i + 1, m), ?_, ⟨by show i + 1 ≤ l.length; omega, hm, hM⟩, by show l.length - (i + 1) < l.length - i; omega⟩
            subst hpq
            have c1 := cl_f hL hm (a := p) (b := p) (by simp [twoS])
            simp only [st6, lp6_0, subC, atC, Tryd.f6, an6, g0, h60, g1, n2, t1, t2, w1, w2, w3, h1, h2, c1, n0, n1, AL, T3, T4, T5, T24, T39, T42, T59, T62, T63, EL, List.replicate_succ, stepD, accs, accP, accW, simpleOp, isAl, isExt, flipD, D.fresh1, D.row, D.plain, D.plain.plainL, St.close, St.close1, St.borrow, retV, resV, resL, outCL, outC, outL, outD, wantedV, opV, An.mid, thawV, D.plainU, prune, envOf, get, put, eval, evalT, nz, argsV, capsV, ofV, binV, binV.aggV, unV, intV, eqOp, isConst, natV, optV, loadV, loadC, storeV, St.at_, partV, partTy, indexAddrV, fieldAddrV, sliceV, sliceV.rowSl, sliceV.strSl, bounds, cutP, builtinV, lenV, maxL, maxV, appendV, St.elems, roomy, rowOf, rowS, isStr, esz, tdOf, convV, buildV, fillV, partsV, okParts, fillL, D.whole, D.demoteC, D.demote, demoteL, D.global, D.flat, D.leaf, D.cells, TI.agg, TD.rowish, callOpV, moveL, CC, keepB, St.borrowL, St.borrow, D.isLsl, adoptR, adoptC, adoptCL, adoptL, adopt, List.toArray, Array.toList, Nat.reduceEqDiff, Nat.reduceAdd, Nat.reduceSub, Nat.reduceMul, Nat.reduceLeDiff, Nat.reduceLT, reduceIte, reduceCtorEq, forall_const, imp_self, Int.reduceNeg, Int.reduceLT, Int.reduceLE, Int.reduceGT, Int.reduceGE, Int.reduceAdd, Int.reduceSub, Int.reduceMul, Int.reduceToNat, Int.reduceEq, ne_eq, eq_self]
            refine ⟨_, rfl, ?_⟩
            show an6.at_ (some 3) _ = _
            simp only [an6, ren_map, toks_map, boxes_map, AL, An.at_, tidyV, tidyW, tidyB, tidyT, sift, envBoxes, envToks, conToks, D.toks, D.tok1, toksL, D.boxes, D.box1, boxesL, memN, posN, renE, D.ren, D.ren1, renL, renB, St.content, St.boxOk, St.tokOk, trues, T3, T4, T5, T24, T39, T42, T59, T62, T63, EL, List.replicate_succ, stepD, accs, accP, accW, simpleOp, isAl, isExt, flipD, D.fresh1, D.row, D.plain, D.plain.plainL, St.close, St.close1, St.borrow, retV, resV, resL, outCL, outC, outL, outD, wantedV, opV, An.mid, thawV, D.plainU, prune, envOf, get, put, eval, evalT, nz, argsV, capsV, ofV, binV, binV.aggV, unV, intV, eqOp, isConst, natV, optV, loadV, loadC, storeV, setC, St.at_, partV, partTy, indexAddrV, fieldAddrV, sliceV, sliceV.rowSl, sliceV.strSl, bounds, cutP, builtinV, lenV, maxL, maxV, appendV, St.elems, roomy, rowOf, rowS, isStr, esz, tdOf, convV, buildV, fillV, partsV, okParts, fillL, D.whole, D.demoteC, D.demote, demoteL, D.global, D.flat, D.leaf, D.cells, TI.agg, TD.rowish, callOpV, moveL, CC, keepB, St.borrowL, St.borrow, D.isLsl, adoptR, adoptC, adoptCL, adoptL, adopt, List.toArray, Array.toList, Nat.reduceEqDiff, Nat.reduceAdd, Nat.reduceSub, Nat.reduceMul, Nat.reduceLeDiff, Nat.reduceLT, reduceIte, reduceCtorEq, forall_const, imp_self, Int.reduceNeg, Int.reduceLT, Int.reduceLE, Int.reduceGT, Int.reduceGE, Int.reduceAdd, Int.reduceSub, Int.reduceMul, Int.reduceToNat, Int.reduceEq, ne_eq, eq_self]
          · refine ⟨(i + 1, cls m p q), ?_, ⟨by show i + 1 ≤ l.length; omega, cls_bnd hm hp hq, may_cls hm hM hp hq hpq⟩, by show l.length - (i + 1) < l.length - i; omega⟩
            have c1 := cl_t hL hm hp hq hpq hM'
            have c2 := c31 hL (cls_bnd (a := p) (b := q) hm hp hq) p q
            rw [sees_n (mayM_t.2 (may_cls hm hM hp hq hpq)) hp hq, decide_eq_false hpq, Bool.false_or, tb_cls hm hp hq hpq, decide_eq_true rfl, decide_eq_true rfl, Bool.and_self, Bool.not_true, Bool.and_false, Bool.false_and] at c2
            simp only [st6, lp6_0, subC, atC, Tryd.f6, an6, g0, h60, g1, n2, t1, t2, w1, w2, w3, h1, h2, c1, c2, n0, n1, AL, T3, T4, T5, T24, T39, T42, T59, T62, T63, EL, List.replicate_succ, stepD, accs, accP, accW, simpleOp, isAl, isExt, flipD, D.fresh1, D.row, D.plain, D.plain.plainL, St.close, St.close1, St.borrow, retV, resV, resL, outCL, outC, outL, outD, wantedV, opV, An.mid, thawV, D.plainU, prune, envOf, get, put, eval, evalT, nz, argsV, capsV, ofV, binV, binV.aggV, unV, intV, eqOp, isConst, natV, optV, loadV, loadC, storeV, St.at_, partV, partTy, indexAddrV, fieldAddrV, sliceV, sliceV.rowSl, sliceV.strSl, bounds, cutP, builtinV, lenV, maxL, maxV, appendV, St.elems, roomy, rowOf, rowS, isStr, esz, tdOf, convV, buildV, fillV, partsV, okParts, fillL, D.whole, D.demoteC, D.demote, demoteL, D.global, D.flat, D.leaf, D.cells, TI.agg, TD.rowish, callOpV, moveL, CC, keepB, St.borrowL, St.borrow, D.isLsl, adoptR, adoptC, adoptCL, adoptL, adopt, List.toArray, Array.toList, Nat.reduceEqDiff, Nat.reduceAdd, Nat.reduceSub, Nat.reduceMul, Nat.reduceLeDiff, Nat.reduceLT, reduceIte, reduceCtorEq, forall_const, imp_self, Int.reduceNeg, Int.reduceLT, Int.reduceLE, Int.reduceGT, Int.reduceGE, Int.reduceAdd, Int.reduceSub, Int.reduceMul, Int.reduceToNat, Int.reduceEq, ne_eq, eq_self]
            refine ⟨_, rfl, ?_⟩
            show an6.at_ (some 3) _ = _
            simp only [an6, ren_map, toks_map, boxes_map, AL, An.at_, tidyV, tidyW, tidyB, tidyT, sift, envBoxes, envToks, conToks, D.toks, D.tok1, toksL, D.boxes, D.box1, boxesL, memN, posN, renE, D.ren, D.ren1, renL, renB, St.content, St.boxOk, St.tokOk, trues, T3, T4, T5, T24, T39, T42, T59, T62, T63, EL, List.replicate_succ, stepD, accs, accP, accW, simpleOp, isAl, isExt, flipD, D.fresh1, D.row, D.plain, D.plain.plainL, St.close, St.close1, St.borrow, retV, resV, resL, outCL, outC, outL, outD, wantedV, opV, An.mid, thawV, D.plainU, prune, envOf, get, put, eval, evalT, nz, argsV, capsV, ofV, binV, binV.aggV, unV, intV, eqOp, isConst, natV, optV, loadV, loadC, storeV, setC, St.at_, partV, partTy, indexAddrV, fieldAddrV, sliceV, sliceV.rowSl, sliceV.strSl, bounds, cutP, builtinV, lenV, maxL, maxV, appendV, St.elems, roomy, rowOf, rowS, isStr, esz, tdOf, convV, buildV, fillV, partsV, okParts, fillL, D.whole, D.demoteC, D.demote, demoteL, D.global, D.flat, D.leaf, D.cells, TI.agg, TD.rowish, callOpV, moveL, CC, keepB, St.borrowL, St.borrow, D.isLsl, adoptR, adoptC, adoptCL, adoptL, adopt, List.toArray, Array.toList, Nat.reduceEqDiff, Nat.reduceAdd, Nat.reduceSub, Nat.reduceMul, Nat.reduceLeDiff, Nat.reduceLT, reduceIte, reduceCtorEq, forall_const, imp_self, Int.reduceNeg, Int.reduceLT, Int.reduceLE, Int.reduceGT, Int.reduceGE, Int.reduceAdd, Int.reduceSub, Int.reduceMul, Int.reduceToNat, Int.reduceEq, ne_eq, eq_self]
        · by_cases hpq : p = q
          · refine ⟨(i + 1, m), ?_, ⟨by show i + 1 ≤ l.length; omega, hm, hM⟩, by show l.length - (i + 1) < l.length - i; omega⟩
            subst hpq
            have c1 := op_f hL hm (a := p) (b := p) (by simp [twoS])
            simp only [st6, lp6_0, subC, atC, Tryd.f6, an6, g0, h60, g1, n2, t1, t2, w1, w2, w3, h1, h2, c1, n0, n1, AL, T3, T4, T5, T24, T39, T42, T59, T62, T63, EL, List.replicate_succ, stepD, accs, accP, accW, simpleOp, isAl, isExt, flipD, D.fresh1, D.row, D.plain, D.plain.plainL, St.close, St.close1, St.borrow, retV, resV, resL, outCL, outC, outL, outD, wantedV, opV, An.mid, thawV, D.plainU, prune, envOf, get, put, eval, evalT, nz, argsV, capsV, ofV, binV, binV.aggV, unV, intV, eqOp, isConst, natV, optV, loadV, loadC, storeV, St.at_, partV, partTy, indexAddrV, fieldAddrV, sliceV, sliceV.rowSl, sliceV.strSl, bounds, cutP, builtinV, lenV, maxL, maxV, appendV, St.elems, roomy, rowOf, rowS, isStr, esz, tdOf, convV, buildV, fillV, partsV, okParts, fillL, D.whole, D.demoteC, D.demote, demoteL, D.global, D.flat, D.leaf, D.cells, TI.agg, TD.rowish, callOpV, moveL, CC, keepB, St.borrowL, St.borrow, D.isLsl, adoptR, adoptC, adoptCL, adoptL, adopt, List.toArray, Array.toList, Nat.reduceEqDiff, Nat.reduceAdd, Nat.reduceSub, Nat.reduceMul, Nat.reduceLeDiff, Nat.reduceLT, reduceIte, reduceCtorEq, forall_const, imp_self, Int.reduceNeg, Int.reduceLT, Int.reduceLE, Int.reduceGT, Int.reduceGE, Int.reduceAdd, Int.reduceSub, Int.reduceMul, Int.reduceToNat, Int.reduceEq, ne_eq, eq_self]
            refine ⟨_, rfl, ?_⟩
            show an6.at_ (some 3) _ = _
            simp only [an6, ren_map, toks_map, boxes_map, AL, An.at_, tidyV, tidyW, tidyB, tidyT, sift, envBoxes, envToks, conToks, D.toks, D.tok1, toksL, D.boxes, D.box1, boxesL, memN, posN, renE, D.ren, D.ren1, renL, renB, St.content, St.boxOk, St.tokOk, trues, T3, T4, T5, T24, T39, T42, T59, T62, T63, EL, List.replicate_succ, stepD, accs, accP, accW, simpleOp, isAl, isExt, flipD, D.fresh1, D.row, D.plain, D.plain.plainL, St.close, St.close1, St.borrow, retV, resV, resL, outCL, outC, outL, outD, wantedV, opV, An.mid, thawV, D.plainU, prune, envOf, get, put, eval, evalT, nz, argsV, capsV, ofV, binV, binV.aggV, unV, intV, eqOp, isConst, natV, optV, loadV, loadC, storeV, setC, St.at_, partV, partTy, indexAddrV, fieldAddrV, sliceV, sliceV.rowSl, sliceV.strSl, bounds, cutP, builtinV, lenV, maxL, maxV, appendV, St.elems, roomy, rowOf, rowS, isStr, esz, tdOf, convV, buildV, fillV, partsV, okParts, fillL, D.whole, D.demoteC, D.demote, demoteL, D.global, D.flat, D.leaf, D.cells, TI.agg, TD.rowish, callOpV, moveL, CC, keepB, St.borrowL, St.borrow, D.isLsl, adoptR, adoptC, adoptCL, adoptL, adopt, List.toArray, Array.toList, Nat.reduceEqDiff, Nat.reduceAdd, Nat.reduceSub, Nat.reduceMul, Nat.reduceLeDiff, Nat.reduceLT, reduceIte, reduceCtorEq, forall_const, imp_self, Int.reduceNeg, Int.reduceLT, Int.reduceLE, Int.reduceGT, Int.reduceGE, Int.reduceAdd, Int.reduceSub, Int.reduceMul, Int.reduceToNat, Int.reduceEq, ne_eq, eq_self]
          · refine ⟨(i + 1, opn m p q), ?_, ⟨by show i + 1 ≤ l.length; omega, opn_bnd hm hp hq, may_opn hM hpq⟩, by show l.length - (i + 1) < l.length - i; omega⟩
            have c1 := op_t hL hm hp hq hpq hM'
            have c2 := c31 hL (opn_bnd (a := p) (b := q) hm hp hq) p q
            have c3 := c31 hL (opn_bnd (a := p) (b := q) hm hp hq) q p
            have e1 : seesS (opn m p q) p q = true := by
              rw [sees_n (mayM_t.2 (may_opn hM hpq)) hp hq, tb_opn hpq]; simp
            have e2 : seesS (opn m p q) q p = true := by
              rw [sees_n (mayM_t.2 (may_opn hM hpq)) hq hp, tb_opn hpq]; simp
            rw [e1] at c2
            rw [e2] at c3
            simp only [st6, lp6_0, subC, atC, Tryd.f6, an6, g0, h60, g1, n2, t1, t2, w1, w2, w3, h1, h2, c1, c2, c3, n0, n1, AL, T3, T4, T5, T24, T39, T42, T59, T62, T63, EL, List.replicate_succ, stepD, accs, accP, accW, simpleOp, isAl, isExt, flipD, D.fresh1, D.row, D.plain, D.plain.plainL, St.close, St.close1, St.borrow, retV, resV, resL, outCL, outC, outL, outD, wantedV, opV, An.mid, thawV, D.plainU, prune, envOf, get, put, eval, evalT, nz, argsV, capsV, ofV, binV, binV.aggV, unV, intV, eqOp, isConst, natV, optV, loadV, loadC, storeV, St.at_, partV, partTy, indexAddrV, fieldAddrV, sliceV, sliceV.rowSl, sliceV.strSl, bounds, cutP, builtinV, lenV, maxL, maxV, appendV, St.elems, roomy, rowOf, rowS, isStr, esz, tdOf, convV, buildV, fillV, partsV, okParts, fillL, D.whole, D.demoteC, D.demote, demoteL, D.global, D.flat, D.leaf, D.cells, TI.agg, TD.rowish, callOpV, moveL, CC, keepB, St.borrowL, St.borrow, D.isLsl, adoptR, adoptC, adoptCL, adoptL, adopt, List.toArray, Array.toList, Nat.reduceEqDiff, Nat.reduceAdd, Nat.reduceSub, Nat.reduceMul, Nat.reduceLeDiff, Nat.reduceLT, reduceIte, reduceCtorEq, forall_const, imp_self, Int.reduceNeg, Int.reduceLT, Int.reduceLE, Int.reduceGT, Int.reduceGE, Int.reduceAdd, Int.reduceSub, Int.reduceMul, Int.reduceToNat, Int.reduceEq, ne_eq, eq_self]
            refine ⟨_, rfl, ?_⟩
            show an6.at_ (some 3) _ = _
            simp only [an6, ren_map, toks_map, boxes_map, AL, An.at_, tidyV, tidyW, tidyB, tidyT, sift, envBoxes, envToks, conToks, D.toks, D.tok1, toksL, D.boxes, D.box1, boxesL, memN, posN, renE, D.ren, D.ren1, renL, renB, St.content, St.boxOk, St.tokOk, trues, T3, T4, T5, T24, T39, T42, T59, T62, T63, EL, List.replicate_succ, stepD, accs, accP, accW, simpleOp, isAl, isExt, flipD, D.fresh1, D.row, D.plain, D.plain.plainL, St.close, St.close1, St.borrow, retV, resV, resL, outCL, outC, outL, outD, wantedV, opV, An.mid, thawV, D.plainU, prune, envOf, get, put, eval, evalT, nz, argsV, capsV, ofV, binV, binV.aggV, unV, intV, eqOp, isConst, natV, optV, loadV, loadC, storeV, setC, St.at_, partV, partTy, indexAddrV, fieldAddrV, sliceV, sliceV.rowSl, sliceV.strSl, bounds, cutP, builtinV, lenV, maxL, maxV, appendV, St.elems, roomy, rowOf, rowS, isStr, esz, tdOf, convV, buildV, fillV, partsV, okParts, fillL, D.whole, D.demoteC, D.demote, demoteL, D.global, D.flat, D.leaf, D.cells, TI.agg, TD.rowish, callOpV, moveL, CC, keepB, St.borrowL, St.borrow, D.isLsl, adoptR, adoptC, adoptCL, adoptL, adopt, List.toArray, Array.toList, Nat.reduceEqDiff, Nat.reduceAdd, Nat.reduceSub, Nat.reduceMul, Nat.reduceLeDiff, Nat.reduceLT, reduceIte, reduceCtorEq, forall_const, imp_self, Int.reduceNeg, Int.reduceLT, Int.reduceLE, Int.reduceGT, Int.reduceGE, Int.reduceAdd, Int.reduceSub, Int.reduceMul, Int.reduceToNat, Int.reduceEq, ne_eq, eq_self]
    · right
      simp only [st6, lp6_0, subC, atC, Tryd.f6, an6, g0, h60, T3, T4, T5, T24, T39, T42, T59, T62, T63, EL, List.replicate_succ, stepD, accs, accP, accW, simpleOp, isAl, isExt, flipD, D.fresh1, D.row, D.plain, D.plain.plainL, St.close, St.close1, St.borrow, retV, resV, resL, outCL, outC, outL, outD, wantedV, opV, An.mid, thawV, D.plainU, prune, envOf, get, put, eval, evalT, nz, argsV, capsV, ofV, binV, binV.aggV, unV, intV, eqOp, isConst, natV, optV, loadV, loadC, storeV, setC, St.at_, partV, partTy, indexAddrV, fieldAddrV, sliceV, sliceV.rowSl, sliceV.strSl, bounds, cutP, builtinV, lenV, maxL, maxV, appendV, St.elems, roomy, rowOf, rowS, isStr, esz, tdOf, convV, buildV, fillV, partsV, okParts, fillL, D.whole, D.demoteC, D.demote, demoteL, D.global, D.flat, D.leaf, D.cells, TI.agg, TD.rowish, callOpV, moveL, CC, keepB, St.borrowL, St.borrow, D.isLsl, adoptR, adoptC, adoptCL, adoptL, adopt, List.toArray, Array.toList, Nat.reduceEqDiff, Nat.reduceAdd, Nat.reduceSub, Nat.reduceMul, Nat.reduceLeDiff, Nat.reduceLT, reduceIte, reduceCtorEq, forall_const, imp_self, Int.reduceNeg, Int.reduceLT, Int.reduceLE, Int.reduceGT, Int.reduceGE, Int.reduceAdd, Int.reduceSub, Int.reduceMul, Int.reduceToNat, Int.reduceEq, ne_eq, eq_self]
      exact ⟨_, _, rfl, by simp, rfl, _, _, _, rfl, ⟨hm, hM⟩, rfl⟩
  · right
    have g0 : ¬ (i : Int) < l.length := by omega
    simp only [st6, lp6_0, subC, atC, Tryd.f6, an6, g0, T3, T4, T5, T24, T39, T42, T59, T62, T63, EL, List.replicate_succ, stepD, accs, accP, accW, simpleOp, isAl, isExt, flipD, D.fresh1, D.row, D.plain, D.plain.plainL, St.close, St.close1, St.borrow, retV, resV, resL, outCL, outC, outL, outD, wantedV, opV, An.mid, thawV, D.plainU, prune, envOf, get, put, eval, evalT, nz, argsV, capsV, ofV, binV, binV.aggV, unV, intV, eqOp, isConst, natV, optV, loadV, loadC, storeV, setC, St.at_, partV, partTy, indexAddrV, fieldAddrV, sliceV, sliceV.rowSl, sliceV.strSl, bounds, cutP, builtinV, lenV, maxL, maxV, appendV, St.elems, roomy, rowOf, rowS, isStr, esz, tdOf, convV, buildV, fillV, partsV, okParts, fillL, D.whole, D.demoteC, D.demote, demoteL, D.global, D.flat, D.leaf, D.cells, TI.agg, TD.rowish, callOpV, moveL, CC, keepB, St.borrowL, St.borrow, D.isLsl, adoptR, adoptC, adoptCL, adoptL, adopt, List.toArray, Array.toList, Nat.reduceEqDiff, Nat.reduceAdd, Nat.reduceSub, Nat.reduceMul, Nat.reduceLeDiff, Nat.reduceLT, reduceIte, reduceCtorEq, forall_const, imp_self, Int.reduceNeg, Int.reduceLT, Int.reduceLE, Int.reduceGT, Int.reduceGE, Int.reduceAdd, Int.reduceSub, Int.reduceMul, Int.reduceToNat, Int.reduceEq, ne_eq, eq_self]
    exact ⟨_, _, rfl, by simp, rfl, _, _, _, rfl, ⟨hm, hM⟩, rfl⟩

def st6_1 (B : Hp) (m : Nat → Nat) (a : Nat) : St := ⟨[(3, .lptr 0 0), (11, .int .i64 a)], [some (nums .u16 16 m)], [], B⟩
noncomputable def st6_2 (B : Hp) (m : Nat → Nat) (a : Nat) (b : Nat) : St := ⟨[(3, .lptr 0 0), (11, .int .i64 a), (12, .int .u16 (grp m a : Nat)), (14, .int .i64 b)], [some (nums .u16 16 m)], [], B⟩

set_option maxRecDepth 10000 in
set_option maxHeartbeats 2000000 in
theorem loop6_2 (hC : Known31 C) (B : Hp) {m : Nat → Nat} (hm : Bnd m) (hM : May m) {a : Nat} (ha : a < 16) (st : St) (hst : an6.at_ (some 30) st = st6_2 B m a 0) :
    ∃ x st', loopC T an6 C lp6_2 st = some (x, st') ∧ x = .exit 5 ∧ ∃ ρ, st' = ⟨ρ, [some (nums .u16 16 m)], [], B⟩ ∧ get ρ 3 = .lptr 0 0 ∧ get ρ 11 = .int .i64 a := by
  have hL := hC.toLib31
  refine loop_rule (st6_2 B m a) (fun b => b ≤ 16) (fun b => 16 - b) _ ?_ 0 st hst (by omega)
  intro b hb
  rcases Nat.lt_or_ge b 16 with h | h
  · left
    refine ⟨b + 1, ?_, by omega, by omega⟩
    have g0 : (b : Int) < 16 := by omega
    have w1 : IntKind.i64.wrap ((b : Int) + 1) = ((b + 1 : Nat) : Int) := by rw [wrapI (by omega) (by omega)]; rfl
    have w2 : IntKind.u64.wrap (b : Int) = b := wrap_u64 (by omega) (by omega)
    have l2 : ¬ (b : Int) < 0 := by omega
    have c1 := gr_t hL hm h (mayM_t.2 hM)
    have c2 := c31 hL hm a b
    rw [sees_n (mayM_t.2 hM) ha h] at c2
    have x1 := u16_shr (v := grp m a) h
    have z1 := tbit (v := grp m a) (b := b)
    rw [grp_bit h] at z1
    have hg := grp_eq hM ha h
    have ht : tb m a b = true → grp m a = grp m b := grp_tb hM ha h
    by_cases e1 : grp m a = grp m b
    · rw [hg.2 e1] at z1
      have f1 : ((grp m a : Nat) : Int) = (grp m b : Nat) := by rw [e1]
      rw [← e1] at c1
      cases e2 : decide (a = b) || tb m a b <;> rw [e2] at c2
      · simp only [st6_2, lp6_2, subC, atC, Tryd.f6, an6, g0, w1, w2, l2, c1, c2, x1, z1, AL, T3, T4, T5, T24, T39, T42, T59, T62, T63, EL, List.replicate_succ, stepD, accs, accP, accW, simpleOp, isAl, isExt, flipD, D.fresh1, D.row, D.plain, D.plain.plainL, St.close, St.close1, St.borrow, retV, resV, resL, outCL, outC, outL, outD, wantedV, opV, An.mid, thawV, D.plainU, prune, envOf, get, put, eval, evalT, nz, argsV, capsV, ofV, binV, binV.aggV, unV, intV, eqOp, isConst, natV, optV, loadV, loadC, storeV, St.at_, partV, partTy, indexAddrV, fieldAddrV, sliceV, sliceV.rowSl, sliceV.strSl, bounds, cutP, builtinV, lenV, maxL, maxV, appendV, St.elems, roomy, rowOf, rowS, isStr, esz, tdOf, convV, buildV, fillV, partsV, okParts, fillL, D.whole, D.demoteC, D.demote, demoteL, D.global, D.flat, D.leaf, D.cells, TI.agg, TD.rowish, callOpV, moveL, CC, keepB, St.borrowL, St.borrow, D.isLsl, adoptR, adoptC, adoptCL, adoptL, adopt, List.toArray, Array.toList, Nat.reduceEqDiff, Nat.reduceAdd, Nat.reduceSub, Nat.reduceMul, Nat.reduceLeDiff, Nat.reduceLT, reduceIte, reduceCtorEq, forall_const, imp_self, Int.reduceNeg, Int.reduceLT, Int.reduceLE, Int.reduceGT, Int.reduceGE, Int.reduceAdd, Int.reduceSub, Int.reduceMul, Int.reduceToNat, Int.reduceEq, ne_eq, eq_self]
        exact ⟨_, rfl, rfl⟩
      · simp only [st6_2, lp6_2, subC, atC, Tryd.f6, an6, g0, w1, w2, l2, c1, c2, x1, z1, AL, T3, T4, T5, T24, T39, T42, T59, T62, T63, EL, List.replicate_succ, stepD, accs, accP, accW, simpleOp, isAl, isExt, flipD, D.fresh1, D.row, D.plain, D.plain.plainL, St.close, St.close1, St.borrow, retV, resV, resL, outCL, outC, outL, outD, wantedV, opV, An.mid, thawV, D.plainU, prune, envOf, get, put, eval, evalT, nz, argsV, capsV, ofV, binV, binV.aggV, unV, intV, eqOp, isConst, natV, optV, loadV, loadC, storeV, St.at_, partV, partTy, indexAddrV, fieldAddrV, sliceV, sliceV.rowSl, sliceV.strSl, bounds, cutP, builtinV, lenV, maxL, maxV, appendV, St.elems, roomy, rowOf, rowS, isStr, esz, tdOf, convV, buildV, fillV, partsV, okParts, fillL, D.whole, D.demoteC, D.demote, demoteL, D.global, D.flat, D.leaf, D.cells, TI.agg, TD.rowish, callOpV, moveL, CC, keepB, St.borrowL, St.borrow, D.isLsl, adoptR, adoptC, adoptCL, adoptL, adopt, List.toArray, Array.toList, Nat.reduceEqDiff, Nat.reduceAdd, Nat.reduceSub, Nat.reduceMul, Nat.reduceLeDiff, Nat.reduceLT, reduceIte, reduceCtorEq, forall_const, imp_self, Int.reduceNeg, Int.reduceLT, Int.reduceLE, Int.reduceGT, Int.reduceGE, Int.reduceAdd, Int.reduceSub, Int.reduceMul, Int.reduceToNat, Int.reduceEq, ne_eq, eq_self]
        exact ⟨_, rfl, rfl⟩
    · have f1 : ¬ ((grp m a : Nat) : Int) = (grp m b : Nat) := by omega
      have e0 : joinB m a b = false := by
        cases e : joinB m a b with
        | false => rfl
        | true => exact absurd (hg.1 e) e1
      rw [e0] at z1
      have e2 : (decide (a = b) || tb m a b) = false := by
        cases e : tb m a b with
        | true => exact absurd (ht e) e1
        | false =>
          have : ¬ a = b := fun e => e1 (by rw [e])
          simp [this]
      rw [e2] at c2
      simp only [st6_2, lp6_2, subC, atC, Tryd.f6, an6, g0, w1, w2, l2, c1, c2, x1, z1, f1, AL, T3, T4, T5, T24, T39, T42, T59, T62, T63, EL, List.replicate_succ, stepD, accs, accP, accW, simpleOp, isAl, isExt, flipD, D.fresh1, D.row, D.plain, D.plain.plainL, St.close, St.close1, St.borrow, retV, resV, resL, outCL, outC, outL, outD, wantedV, opV, An.mid, thawV, D.plainU, prune, envOf, get, put, eval, evalT, nz, argsV, capsV, ofV, binV, binV.aggV, unV, intV, eqOp, isConst, natV, optV, loadV, loadC, storeV, St.at_, partV, partTy, indexAddrV, fieldAddrV, sliceV, sliceV.rowSl, sliceV.strSl, bounds, cutP, builtinV, lenV, maxL, maxV, appendV, St.elems, roomy, rowOf, rowS, isStr, esz, tdOf, convV, buildV, fillV, partsV, okParts, fillL, D.whole, D.demoteC, D.demote, demoteL, D.global, D.flat, D.leaf, D.cells, TI.agg, TD.rowish, callOpV, moveL, CC, keepB, St.borrowL, St.borrow, D.isLsl, adoptR, adoptC, adoptCL, adoptL, adopt, List.toArray, Array.toList, Nat.reduceEqDiff, Nat.reduceAdd, Nat.reduceSub, Nat.reduceMul, Nat.reduceLeDiff, Nat.reduceLT, reduceIte, reduceCtorEq, forall_const, imp_self, Int.reduceNeg, Int.reduceLT, Int.reduceLE, Int.reduceGT, Int.reduceGE, Int.reduceAdd, Int.reduceSub, Int.reduceMul, Int.reduceToNat, Int.reduceEq, ne_eq, eq_self]
      exact ⟨_, rfl, rfl⟩
  · right
    obtain rfl : b = 16 := by omega
    have g0 : ¬ ((16 : Nat) : Int) < 16 := by omega
    simp only [st6_2, lp6_2, subC, atC, Tryd.f6, an6, g0, T3, T4, T5, T24, T39, T42, T59, T62, T63, EL, List.replicate_succ, stepD, accs, accP, accW, simpleOp, isAl, isExt, flipD, D.fresh1, D.row, D.plain, D.plain.plainL, St.close, St.close1, St.borrow, retV, resV, resL, outCL, outC, outL, outD, wantedV, opV, An.mid, thawV, D.plainU, prune, envOf, get, put, eval, evalT, nz, argsV, capsV, ofV, binV, binV.aggV, unV, intV, eqOp, isConst, natV, optV, loadV, loadC, storeV, setC, St.at_, partV, partTy, indexAddrV, fieldAddrV, sliceV, sliceV.rowSl, sliceV.strSl, bounds, cutP, builtinV, lenV, maxL, maxV, appendV, St.elems, roomy, rowOf, rowS, isStr, esz, tdOf, convV, buildV, fillV, partsV, okParts, fillL, D.whole, D.demoteC, D.demote, demoteL, D.global, D.flat, D.leaf, D.cells, TI.agg, TD.rowish, callOpV, moveL, CC, keepB, St.borrowL, St.borrow, D.isLsl, adoptR, adoptC, adoptCL, adoptL, adopt, List.toArray, Array.toList, Nat.reduceEqDiff, Nat.reduceAdd, Nat.reduceSub, Nat.reduceMul, Nat.reduceLeDiff, Nat.reduceLT, reduceIte, reduceCtorEq, forall_const, imp_self, Int.reduceNeg, Int.reduceLT, Int.reduceLE, Int.reduceGT, Int.reduceGE, Int.reduceAdd, Int.reduceSub, Int.reduceMul, Int.reduceToNat, Int.reduceEq, ne_eq, eq_self]
    exact ⟨_, _, rfl, by simp, rfl, _, rfl, rfl, rfl⟩

set_option maxRecDepth 10000 in
set_option maxHeartbeats 2000000 in
theorem loop6_1 (hC : Known31 C) (B : Hp) {m : Nat → Nat} (hm : Bnd m) (hM : May m) (st : St) (hst : an6.at_ (some 24) st = st6_1 B m 0) :
    ∃ x st', loopC T an6 C lp6_1 st = some (x, st') ∧ x = .exit 3 ∧ ∃ ρ, st' = ⟨ρ, [some (nums .u16 16 m)], [], B⟩ ∧ get ρ 3 = .lptr 0 0 := by
  have hL := hC.toLib31
  refine loop_rule (st6_1 B m) (fun a => a ≤ 16) (fun a => 16 - a) _ ?_ 0 st hst (by omega)
  intro a ha
  rcases Nat.lt_or_ge a 16 with h | h
  · left
    refine ⟨a + 1, ?_, by omega, by omega⟩
    have g0 : (a : Int) < 16 := by omega
    have w1 : IntKind.i64.wrap ((a : Int) + 1) = ((a + 1 : Nat) : Int) := by rw [wrapI (by omega) (by omega)]; rfl
    have w2 : IntKind.u64.wrap (a : Int) = a := wrap_u64 (by omega) (by omega)
    have l2 : ¬ (a : Int) < 0 := by omega
    have c1 := gr_t hL hm h (mayM_t.2 hM)
    have x1 := u16_shr (v := grp m a) h
    have z1 := tbit (v := grp m a) (b := a)
    rw [grp_bit h, joinB_t.2 .refl] at z1
    have c2 := c36 hL hm (s := grp m a) grp_lt
    rw [apt_t.2 ⟨mayM_t.2 hM, apt_grp⟩] at c2
    simp only [st6_1, lp6_1, subC, atC, Tryd.f6, an6, g0, w2, l2, c1, c2, x1, z1, AL, T3, T4, T5, T24, T39, T42, T59, T62, T63, EL, List.replicate_succ, stepD, accs, accP, accW, simpleOp, isAl, isExt, flipD, D.fresh1, D.row, D.plain, D.plain.plainL, St.close, St.close1, St.borrow, retV, resV, resL, outCL, outC, outL, outD, wantedV, opV, An.mid, thawV, D.plainU, prune, envOf, get, put, eval, evalT, nz, argsV, capsV, ofV, binV, binV.aggV, unV, intV, eqOp, isConst, natV, optV, loadV, loadC, storeV, St.at_, partV, partTy, indexAddrV, fieldAddrV, sliceV, sliceV.rowSl, sliceV.strSl, bounds, cutP, builtinV, lenV, maxL, maxV, appendV, St.elems, roomy, rowOf, rowS, isStr, esz, tdOf, convV, buildV, fillV, partsV, okParts, fillL, D.whole, D.demoteC, D.demote, demoteL, D.global, D.flat, D.leaf, D.cells, TI.agg, TD.rowish, callOpV, moveL, CC, keepB, St.borrowL, St.borrow, D.isLsl, adoptR, adoptC, adoptCL, adoptL, adopt, List.toArray, Array.toList, Nat.reduceEqDiff, Nat.reduceAdd, Nat.reduceSub, Nat.reduceMul, Nat.reduceLeDiff, Nat.reduceLT, reduceIte, reduceCtorEq, forall_const, imp_self, Int.reduceNeg, Int.reduceLT, Int.reduceLE, Int.reduceGT, Int.reduceGE, Int.reduceAdd, Int.reduceSub, Int.reduceMul, Int.reduceToNat, Int.reduceEq, ne_eq, eq_self]
    generalize hr : loopC T _ C _ _ = r
    obtain ⟨x, st', rfl, hx⟩ := nest hr (loop6_2 hC B hm hM h _ (by
      clear hr
      simp only [an6, ren_map, toks_map, boxes_map, st6_2, AL, An.at_, tidyV, tidyW, tidyB, tidyT, sift, envBoxes, envToks, conToks, D.toks, D.tok1, toksL, D.boxes, D.box1, boxesL, memN, posN, renE, D.ren, D.ren1, renL, renB, St.content, St.boxOk, St.tokOk, trues, T3, T4, T5, T24, T39, T42, T59, T62, T63, EL, List.replicate_succ, stepD, accs, accP, accW, simpleOp, isAl, isExt, flipD, D.fresh1, D.row, D.plain, D.plain.plainL, St.close, St.close1, St.borrow, retV, resV, resL, outCL, outC, outL, outD, wantedV, opV, An.mid, thawV, D.plainU, prune, envOf, get, put, eval, evalT, nz, argsV, capsV, ofV, binV, binV.aggV, unV, intV, eqOp, isConst, natV, optV, loadV, loadC, storeV, setC, St.at_, partV, partTy, indexAddrV, fieldAddrV, sliceV, sliceV.rowSl, sliceV.strSl, bounds, cutP, builtinV, lenV, maxL, maxV, appendV, St.elems, roomy, rowOf, rowS, isStr, esz, tdOf, convV, buildV, fillV, partsV, okParts, fillL, D.whole, D.demoteC, D.demote, demoteL, D.global, D.flat, D.leaf, D.cells, TI.agg, TD.rowish, callOpV, moveL, CC, keepB, St.borrowL, St.borrow, D.isLsl, adoptR, adoptC, adoptCL, adoptL, adopt, List.toArray, Array.toList, Nat.reduceEqDiff, Nat.reduceAdd, Nat.reduceSub, Nat.reduceMul, Nat.reduceLeDiff, Nat.reduceLT, reduceIte, reduceCtorEq, forall_const, imp_self, Int.reduceNeg, Int.reduceLT, Int.reduceLE, Int.reduceGT, Int.reduceGE, Int.reduceAdd, Int.reduceSub, Int.reduceMul, Int.reduceToNat, Int.reduceEq, ne_eq, eq_self]
      rfl)) rfl
    clear hr
    obtain ⟨rfl, ρ, rfl, h1, h2⟩ := hx
    simp only [h1, h2, w1, T3, T4, T5, T24, T39, T42, T59, T62, T63, EL, List.replicate_succ, stepD, accs, accP, accW, simpleOp, isAl, isExt, flipD, D.fresh1, D.row, D.plain, D.plain.plainL, St.close, St.close1, St.borrow, retV, resV, resL, outCL, outC, outL, outD, wantedV, opV, An.mid, thawV, D.plainU, prune, envOf, get, put, eval, evalT, nz, argsV, capsV, ofV, binV, binV.aggV, unV, intV, eqOp, isConst, natV, optV, loadV, loadC, storeV, setC, St.at_, partV, partTy, indexAddrV, fieldAddrV, sliceV, sliceV.rowSl, sliceV.strSl, bounds, cutP, builtinV, lenV, maxL, maxV, appendV, St.elems, roomy, rowOf, rowS, isStr, esz, tdOf, convV, buildV, fillV, partsV, okParts, fillL, D.whole, D.demoteC, D.demote, demoteL, D.global, D.flat, D.leaf, D.cells, TI.agg, TD.rowish, callOpV, moveL, CC, keepB, St.borrowL, St.borrow, D.isLsl, adoptR, adoptC, adoptCL, adoptL, adopt, List.toArray, Array.toList, Nat.reduceEqDiff, Nat.reduceAdd, Nat.reduceSub, Nat.reduceMul, Nat.reduceLeDiff, Nat.reduceLT, reduceIte, reduceCtorEq, forall_const, imp_self, Int.reduceNeg, Int.reduceLT, Int.reduceLE, Int.reduceGT, Int.reduceGE, Int.reduceAdd, Int.reduceSub, Int.reduceMul, Int.reduceToNat, Int.reduceEq, ne_eq, eq_self]
    refine ⟨_, rfl, ?_⟩
    show an6.at_ (some 24) _ = _
    simp only [an6, ren_map, toks_map, boxes_map, st6_1, h1, h2, AL, An.at_, tidyV, tidyW, tidyB, tidyT, sift, envBoxes, envToks, conToks, D.toks, D.tok1, toksL, D.boxes, D.box1, boxesL, memN, posN, renE, D.ren, D.ren1, renL, renB, St.content, St.boxOk, St.tokOk, trues, T3, T4, T5, T24, T39, T42, T59, T62, T63, EL, List.replicate_succ, stepD, accs, accP, accW, simpleOp, isAl, isExt, flipD, D.fresh1, D.row, D.plain, D.plain.plainL, St.close, St.close1, St.borrow, retV, resV, resL, outCL, outC, outL, outD, wantedV, opV, An.mid, thawV, D.plainU, prune, envOf, get, put, eval, evalT, nz, argsV, capsV, ofV, binV, binV.aggV, unV, intV, eqOp, isConst, natV, optV, loadV, loadC, storeV, setC, St.at_, partV, partTy, indexAddrV, fieldAddrV, sliceV, sliceV.rowSl, sliceV.strSl, bounds, cutP, builtinV, lenV, maxL, maxV, appendV, St.elems, roomy, rowOf, rowS, isStr, esz, tdOf, convV, buildV, fillV, partsV, okParts, fillL, D.whole, D.demoteC, D.demote, demoteL, D.global, D.flat, D.leaf, D.cells, TI.agg, TD.rowish, callOpV, moveL, CC, keepB, St.borrowL, St.borrow, D.isLsl, adoptR, adoptC, adoptCL, adoptL, adopt, List.toArray, Array.toList, Nat.reduceEqDiff, Nat.reduceAdd, Nat.reduceSub, Nat.reduceMul, Nat.reduceLeDiff, Nat.reduceLT, reduceIte, reduceCtorEq, forall_const, imp_self, Int.reduceNeg, Int.reduceLT, Int.reduceLE, Int.reduceGT, Int.reduceGE, Int.reduceAdd, Int.reduceSub, Int.reduceMul, Int.reduceToNat, Int.reduceEq, ne_eq, eq_self]
  · right
    obtain rfl : a = 16 := by omega
    have g0 : ¬ ((16 : Nat) : Int) < 16 := by omega
    simp only [st6_1, lp6_1, subC, atC, Tryd.f6, an6, g0, T3, T4, T5, T24, T39, T42, T59, T62, T63, EL, List.replicate_succ, stepD, accs, accP, accW, simpleOp, isAl, isExt, flipD, D.fresh1, D.row, D.plain, D.plain.plainL, St.close, St.close1, St.borrow, retV, resV, resL, outCL, outC, outL, outD, wantedV, opV, An.mid, thawV, D.plainU, prune, envOf, get, put, eval, evalT, nz, argsV, capsV, ofV, binV, binV.aggV, unV, intV, eqOp, isConst, natV, optV, loadV, loadC, storeV, setC, St.at_, partV, partTy, indexAddrV, fieldAddrV, sliceV, sliceV.rowSl, sliceV.strSl, bounds, cutP, builtinV, lenV, maxL, maxV, appendV, St.elems, roomy, rowOf, rowS, isStr, esz, tdOf, convV, buildV, fillV, partsV, okParts, fillL, D.whole, D.demoteC, D.demote, demoteL, D.global, D.flat, D.leaf, D.cells, TI.agg, TD.rowish, callOpV, moveL, CC, keepB, St.borrowL, St.borrow, D.isLsl, adoptR, adoptC, adoptCL, adoptL, adopt, List.toArray, Array.toList, Nat.reduceEqDiff, Nat.reduceAdd, Nat.reduceSub, Nat.reduceMul, Nat.reduceLeDiff, Nat.reduceLT, reduceIte, reduceCtorEq, forall_const, imp_self, Int.reduceNeg, Int.reduceLT, Int.reduceLE, Int.reduceGT, Int.reduceGE, Int.reduceAdd, Int.reduceSub, Int.reduceMul, Int.reduceToNat, Int.reduceEq, ne_eq, eq_self]
    exact ⟨_, _, rfl, by simp, rfl, _, rfl, rfl⟩

set_option maxRecDepth 10000 in
set_option maxHeartbeats 2000000 in
theorem run6 (hC : Known31 C) (l : List (Nat × Nat)) (hl : l.length ≤ 9223372036854775807) (hb : ∀ x, x ∈ l → x.1 < 256 ∧ x.2 < 256) (B : Hp) : runV T C fi6 [pairs l] B = some (.bool true, B) := by
  rw [e_run _ _ _ rfl]
  have hL := hC.toLib31
  have e4 := c37 hC
  simp only [fi6, Tryd.f6, an6, AL, T3, T4, T5, T24, T39, T42, T59, T62, T63, EL, List.replicate_succ, stepD, accs, accP, accW, simpleOp, isAl, isExt, flipD, D.fresh1, D.row, D.plain, D.plain.plainL, St.close, St.close1, St.borrow, retV, resV, resL, outCL, outC, outL, outD, wantedV, opV, An.mid, thawV, D.plainU, prune, envOf, get, put, eval, evalT, nz, argsV, capsV, ofV, binV, binV.aggV, unV, intV, eqOp, isConst, natV, optV, loadV, loadC, storeV, St.at_, partV, partTy, indexAddrV, fieldAddrV, sliceV, sliceV.rowSl, sliceV.strSl, bounds, cutP, builtinV, lenV, maxL, maxV, appendV, St.elems, roomy, rowOf, rowS, isStr, esz, tdOf, convV, buildV, fillV, partsV, okParts, fillL, D.whole, D.demoteC, D.demote, demoteL, D.global, D.flat, D.leaf, D.cells, TI.agg, TD.rowish, callOpV, moveL, CC, keepB, St.borrowL, St.borrow, D.isLsl, adoptR, adoptC, adoptCL, adoptL, adopt, List.toArray, Array.toList, Nat.reduceEqDiff, Nat.reduceAdd, Nat.reduceSub, Nat.reduceMul, Nat.reduceLeDiff, Nat.reduceLT, reduceIte, reduceCtorEq, forall_const, imp_self, Int.reduceNeg, Int.reduceLT, Int.reduceLE, Int.reduceGT, Int.reduceGE, Int.reduceAdd, Int.reduceSub, Int.reduceMul, Int.reduceToNat, Int.reduceEq, ne_eq, eq_self]
  refine' in_loop (c' := lp6_0) (fin T _ _ _) ?h rfl ?q
  case h =>
    refine loop6 hC B l hl hb _ ?_
    simp only [an6, ren_map, toks_map, boxes_map, st6, AL, An.at_, tidyV, tidyW, tidyB, tidyT, sift, envBoxes, envToks, conToks, D.toks, D.tok1, toksL, D.boxes, D.box1, boxesL, memN, posN, renE, D.ren, D.ren1, renL, renB, St.content, St.boxOk, St.tokOk, trues, T3, T4, T5, T24, T39, T42, T59, T62, T63, EL, List.replicate_succ, stepD, accs, accP, accW, simpleOp, isAl, isExt, flipD, D.fresh1, D.row, D.plain, D.plain.plainL, St.close, St.close1, St.borrow, retV, resV, resL, outCL, outC, outL, outD, wantedV, opV, An.mid, thawV, D.plainU, prune, envOf, get, put, eval, evalT, nz, argsV, capsV, ofV, binV, binV.aggV, unV, intV, eqOp, isConst, natV, optV, loadV, loadC, storeV, setC, St.at_, partV, partTy, indexAddrV, fieldAddrV, sliceV, sliceV.rowSl, sliceV.strSl, bounds, cutP, builtinV, lenV, maxL, maxV, appendV, St.elems, roomy, rowOf, rowS, isStr, esz, tdOf, convV, buildV, fillV, partsV, okParts, fillL, D.whole, D.demoteC, D.demote, demoteL, D.global, D.flat, D.leaf, D.cells, TI.agg, TD.rowish, callOpV, moveL, CC, keepB, St.borrowL, St.borrow, D.isLsl, adoptR, adoptC, adoptCL, adoptL, adopt, List.toArray, Array.toList, Nat.reduceEqDiff, Nat.reduceAdd, Nat.reduceSub, Nat.reduceMul, Nat.reduceLeDiff, Nat.reduceLT, reduceIte, reduceCtorEq, forall_const, imp_self, Int.reduceNeg, Int.reduceLT, Int.reduceLE, Int.reduceGT, Int.reduceGE, Int.reduceAdd, Int.reduceSub, Int.reduceMul, Int.reduceToNat, Int.reduceEq, ne_eq, eq_self]
    rfl
  rintro x st' ⟨rfl, ρ, m, L, rfl, ⟨hm, hM⟩, h1⟩
  have c1 := ck_t hL hm (mayM_t.2 hM)
  simp only [h1, T3, T4, T5, T24, T39, T42, T59, T62, T63, EL, List.replicate_succ, stepD, accs, accP, accW, simpleOp, isAl, isExt, flipD, D.fresh1, D.row, D.plain, D.plain.plainL, St.close, St.close1, St.borrow, retV, resV, resL, outCL, outC, outL, outD, wantedV, opV, An.mid, thawV, D.plainU, prune, envOf, get, put, eval, evalT, nz, argsV, capsV, ofV, binV, binV.aggV, unV, intV, eqOp, isConst, natV, optV, loadV, loadC, storeV, St.at_, partV, partTy, indexAddrV, fieldAddrV, sliceV, sliceV.rowSl, sliceV.strSl, bounds, cutP, builtinV, lenV, maxL, maxV, appendV, St.elems, roomy, rowOf, rowS, isStr, esz, tdOf, convV, buildV, fillV, partsV, okParts, fillL, D.whole, D.demoteC, D.demote, demoteL, D.global, D.flat, D.leaf, D.cells, TI.agg, TD.rowish, callOpV, moveL, CC, keepB, St.borrowL, St.borrow, D.isLsl, adoptR, adoptC, adoptCL, adoptL, adopt, List.toArray, Array.toList, Nat.reduceEqDiff, Nat.reduceAdd, Nat.reduceSub, Nat.reduceMul, Nat.reduceLeDiff, Nat.reduceLT, reduceIte, reduceCtorEq, forall_const, imp_self, Int.reduceNeg, Int.reduceLT, Int.reduceLE, Int.reduceGT, Int.reduceGE, Int.reduceAdd, Int.reduceSub, Int.reduceMul, Int.reduceToNat, Int.reduceEq, ne_eq, eq_self]
  refine' in_loop (c' := lp6_1) (fin T _ _ _) ?h2 rfl ?q2
  case h2 =>
    refine loop6_1 hC B hm hM _ ?_
    simp only [an6, ren_map, toks_map, boxes_map, st6_1, h1, AL, An.at_, tidyV, tidyW, tidyB, tidyT, sift, envBoxes, envToks, conToks, D.toks, D.tok1, toksL, D.boxes, D.box1, boxesL, memN, posN, renE, D.ren, D.ren1, renL, renB, St.content, St.boxOk, St.tokOk, trues, T3, T4, T5, T24, T39, T42, T59, T62, T63, EL, List.replicate_succ, stepD, accs, accP, accW, simpleOp, isAl, isExt, flipD, D.fresh1, D.row, D.plain, D.plain.plainL, St.close, St.close1, St.borrow, retV, resV, resL, outCL, outC, outL, outD, wantedV, opV, An.mid, thawV, D.plainU, prune, envOf, get, put, eval, evalT, nz, argsV, capsV, ofV, binV, binV.aggV, unV, intV, eqOp, isConst, natV, optV, loadV, loadC, storeV, setC, St.at_, partV, partTy, indexAddrV, fieldAddrV, sliceV, sliceV.rowSl, sliceV.strSl, bounds, cutP, builtinV, lenV, maxL, maxV, appendV, St.elems, roomy, rowOf, rowS, isStr, esz, tdOf, convV, buildV, fillV, partsV, okParts, fillL, D.whole, D.demoteC, D.demote, demoteL, D.global, D.flat, D.leaf, D.cells, TI.agg, TD.rowish, callOpV, moveL, CC, keepB, St.borrowL, St.borrow, D.isLsl, adoptR, adoptC, adoptCL, adoptL, adopt, List.toArray, Array.toList, Nat.reduceEqDiff, Nat.reduceAdd, Nat.reduceSub, Nat.reduceMul, Nat.reduceLeDiff, Nat.reduceLT, reduceIte, reduceCtorEq, forall_const, imp_self, Int.reduceNeg, Int.reduceLT, Int.reduceLE, Int.reduceGT, Int.reduceGE, Int.reduceAdd, Int.reduceSub, Int.reduceMul, Int.reduceToNat, Int.reduceEq, ne_eq, eq_self]
    rfl
  rintro x st' ⟨rfl, ρ, rfl, h1⟩
  simp only [h1, c1, e4, AL, T3, T4, T5, T24, T39, T42, T59, T62, T63, EL, List.replicate_succ, stepD, accs, accP, accW, simpleOp, isAl, isExt, flipD, D.fresh1, D.row, D.plain, D.plain.plainL, St.close, St.close1, St.borrow, retV, resV, resL, outCL, outC, outL, outD, wantedV, opV, An.mid, thawV, D.plainU, prune, envOf, get, put, eval, evalT, nz, argsV, capsV, ofV, binV, binV.aggV, unV, intV, eqOp, isConst, natV, optV, loadV, loadC, storeV, St.at_, partV, partTy, indexAddrV, fieldAddrV, sliceV, sliceV.rowSl, sliceV.strSl, bounds, cutP, builtinV, lenV, maxL, maxV, appendV, St.elems, roomy, rowOf, rowS, isStr, esz, tdOf, convV, buildV, fillV, partsV, okParts, fillL, D.whole, D.demoteC, D.demote, demoteL, D.global, D.flat, D.leaf, D.cells, TI.agg, TD.rowish, callOpV, moveL, CC, keepB, St.borrowL, St.borrow, D.isLsl, adoptR, adoptC, adoptCL, adoptL, adopt, List.toArray, Array.toList, Nat.reduceEqDiff, Nat.reduceAdd, Nat.reduceSub, Nat.reduceMul, Nat.reduceLeDiff, Nat.reduceLT, reduceIte, reduceCtorEq, forall_const, imp_self, Int.reduceNeg, Int.reduceLT, Int.reduceLE, Int.reduceGT, Int.reduceGE, Int.reduceAdd, Int.reduceSub, Int.reduceMul, Int.reduceToNat, Int.reduceEq, ne_eq, eq_self]

end Go.Proofs.YtbbbhalmlboapaaDoor.V
