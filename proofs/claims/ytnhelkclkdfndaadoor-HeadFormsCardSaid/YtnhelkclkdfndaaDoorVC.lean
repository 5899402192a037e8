/-
Layer 2, for other layers: the document's way to tell whether the last four are the sum.
-/
import Derived.Test.YtnhelkclkdfndaaDoorVB
namespace Go.Proofs.YtnhelkclkdfndaaDoor.V
open Go Go.RowKit
set_option linter.unusedSimpArgs false
set_option linter.unusedVariables false

variable {C : Callees}

theorem be4_iff {a b c d s : Nat} (ha : a < 256) (hb : b < 256) (hc : c < 256) (hd : d < 256) (hs : s < 4294967296) : be4 a b c d = s ↔ a = s / 16777216 ∧ b = s / 65536 % 256 ∧ c = s / 256 % 256 ∧ d = s % 256 := by
  unfold be4; omega

set_option maxRecDepth 10000 in
set_option maxHeartbeats 1000000 in
theorem run143 (hC : LibCrc C) (l : List UInt8) (hl : l.length ≤ 1000000) (B : Hp) : runV T C fi143 [byV l .none] B = some (.bool (isL l), B) := by
  rw [e_run _ _ _ rfl]
  by_cases h4 : 4 ≤ l.length
  · obtain ⟨x, a, b, c, e, rfl⟩ := four_of h4
    have hx : (x ++ [a, b, c, e]).length = x.length + 4 := by simp
    rw [hx] at hl
    have w0 : ¬ ((x.length + 4 : Nat) : Int) < 4 := by omega
    have w1 : IntKind.i64.wrap (((x.length + 4 : Nat) : Int) - 4) = x.length := by rw [wrapI (by omega) (by omega)]; omega
    have w2 : ¬ (x.length : Int) < 0 := by omega
    have w3 : (0 : Int) ≤ x.length := by omega
    have w4 : IntKind.i64.wrap ((x.length : Int) + 1) = ((x.length + 1 : Nat) : Int) := by rw [wrapI (by omega) (by omega)]; omega
    have w5 : IntKind.i64.wrap ((x.length : Int) + 2) = ((x.length + 2 : Nat) : Int) := by rw [wrapI (by omega) (by omega)]; omega
    have w6 : IntKind.i64.wrap ((x.length : Int) + 3) = ((x.length + 3 : Nat) : Int) := by rw [wrapI (by omega) (by omega)]; omega
    have w7 : (0 : Int) ≤ ((x.length + 1 : Nat) : Int) := by omega
    have w8 : (0 : Int) ≤ ((x.length + 2 : Nat) : Int) := by omega
    have w9 : (0 : Int) ≤ ((x.length + 3 : Nat) : Int) := by omega
    have e1 : (x ++ [a, b, c, e])[x.length]? = some a := by simp
    have e2 : (x ++ [a, b, c, e])[x.length + 1]? = some b := by simp
    have e3 : (x ++ [a, b, c, e])[x.length + 2]? = some c := by simp
    have e4 : (x ++ [a, b, c, e])[x.length + 3]? = some e := by simp
    have e5 : (x ++ [a, b, c, e]).take x.length = x := List.take_left
    have q1 : x.length ≤ x.length + 4 := by omega
    have q2 : x.length + 4 ≤ x.length + 4 := by omega
    have q3 : 0 ≤ x.length := by omega
    have h2 : ∀ B, C 137 [.int .u32 0, .vec 1 (x.map byteD) .none] B = some (.int .u32 (moreS 0 x : Nat), B) := c137 hC 0 (by decide) x (by omega)
    rw [isL_four]
    have hs := more_lt 0 x
    generalize moreS 0 x = s at h2 hs ⊢
    have ha := a.toNat_lt; have hb := b.toNat_lt; have hc := c.toNat_lt; have he := e.toNat_lt
    have d1 : IntKind.u8.wrap (IntKind.u32.wrap ((s : Int).tdiv 16777216)) = ((s / 16777216 : Nat) : Int) := by rw [Int.tdiv_eq_ediv_of_nonneg (by omega), wrap_u32 (by omega) (by omega), wrap_u8 (by omega) (by omega)]; omega
    have d2 : IntKind.u8.wrap ((IntKind.u32.wrap ((s : Int).tdiv 65536)).tmod 256) = ((s / 65536 % 256 : Nat) : Int) := by rw [Int.tdiv_eq_ediv_of_nonneg (by omega), wrap_u32 (by omega) (by omega), Int.tmod_eq_emod_of_nonneg (by omega), wrap_u8 (by omega) (by omega)]; omega
    have d3 : IntKind.u8.wrap ((IntKind.u32.wrap ((s : Int).tdiv 256)).tmod 256) = ((s / 256 % 256 : Nat) : Int) := by rw [Int.tdiv_eq_ediv_of_nonneg (by omega), wrap_u32 (by omega) (by omega), Int.tmod_eq_emod_of_nonneg (by omega), wrap_u8 (by omega) (by omega)]; omega
    have d4 : IntKind.u8.wrap ((s : Int).tmod 256) = ((s % 256 : Nat) : Int) := by rw [Int.tmod_eq_emod_of_nonneg (by omega), wrap_u8 (by omega) (by omega)]; omega
    have hbe := be4_iff ha hb hc he hs
    have hres : (be4 a.toNat b.toNat c.toNat e.toNat == s) = decide (a.toNat = s / 16777216 ∧ b.toNat = s / 65536 % 256 ∧ c.toNat = s / 256 % 256 ∧ e.toNat = s % 256) := by
      rw [Bool.eq_iff_iff]; simp [hbe]
    rw [hres]
    clear hres hbe
    by_cases k1 : a.toNat = s / 16777216
    · have j1 : ((a.toNat : Nat) : Int) = ((s / 16777216 : Nat) : Int) := by rw [k1]
      by_cases k2 : b.toNat = s / 65536 % 256
      · have j2 : ((b.toNat : Nat) : Int) = ((s / 65536 % 256 : Nat) : Int) := by rw [k2]
        by_cases k3 : c.toNat = s / 256 % 256
        · have j3 : ((c.toNat : Nat) : Int) = ((s / 256 % 256 : Nat) : Int) := by rw [k3]
          by_cases k4 : e.toNat = s % 256
          · have j4 : ((e.toNat : Nat) : Int) = ((s % 256 : Nat) : Int) := by rw [k4]
            rw [decide_eq_true (⟨k1, k2, k3, k4⟩ : _ ∧ _)]
            simp only [fi143, Tryd.f143, an143, hx, w0, w1, w2, w3, w4, w5, w6, w7, w8, w9, e1, e2, e3, e4, e5, h2, q1, q2, q3, d1, d2, d3, d4, j1, j2, j3, j4, List.getElem?_map, Option.map_some, byteD, Int.toNat_natCast, T3, T5, T68, T237, EL, e_finWf, e_finWt, e_finMN, e_finMX, retM, meltV, tupV, D.asBox, D.row1, D.freeR, D.freeO, List.replicate_succ, stepD, accs, accP, accW, simpleOp, isAl, isExt, flipD, D.fresh1, D.row, D.plain, D.plain.plainL, St.close, St.close1, St.borrow, retV, resV, resL, outCL, outC, outL, outD, wantedV, opV, An.mid, thawV, St.settle, D.plainU, prune, envOf, get, put, eval, evalT, nz, argsV, capsV, ofV, binV, binV.aggV, unV, intV, eqOp, isConst, natV, optV, loadV, loadC, storeV, setC, St.at_, partV, partTy, indexAddrV, fieldAddrV, sliceV, sliceV.rowSl, sliceV.strSl, bounds, cutP, builtinV, lenV, maxL, maxV, appendV, St.elems, roomy, rowOf, rowS, isStr, esz, tdOf, convV, buildV, fillV, partsV, okParts, fillL, D.whole, D.demoteC, D.demote, demoteL, D.global, D.flat, D.leaf, D.cells, TI.agg, TD.rowish, callOpV, moveL, CC, keepB, St.borrowL, St.borrow, D.isLsl, adoptR, adoptC, adoptCL, adoptL, adopt, List.toArray, Array.toList, Nat.reduceEqDiff, Nat.reduceAdd, Nat.reduceSub, Nat.reduceMul, Nat.reduceLeDiff, Nat.reduceLT, reduceIte, reduceCtorEq, forall_const, imp_self, Int.reduceNeg, Int.reduceLT, Int.reduceLE, Int.reduceGT, Int.reduceGE, Int.reduceAdd, Int.reduceSub, Int.reduceMul, Int.reduceToNat, Int.reduceEq, ne_eq, eq_self]
          · have j4 : ¬ ((e.toNat : Nat) : Int) = ((s % 256 : Nat) : Int) := by omega
            rw [decide_eq_false (fun h => k4 h.2.2.2 : ¬ (_ ∧ _))]
            simp only [fi143, Tryd.f143, an143, hx, w0, w1, w2, w3, w4, w5, w6, w7, w8, w9, e1, e2, e3, e4, e5, h2, q1, q2, q3, d1, d2, d3, d4, j1, j2, j3, j4, List.getElem?_map, Option.map_some, byteD, Int.toNat_natCast, T3, T5, T68, T237, EL, e_finWf, e_finWt, e_finMN, e_finMX, retM, meltV, tupV, D.asBox, D.row1, D.freeR, D.freeO, List.replicate_succ, stepD, accs, accP, accW, simpleOp, isAl, isExt, flipD, D.fresh1, D.row, D.plain, D.plain.plainL, St.close, St.close1, St.borrow, retV, resV, resL, outCL, outC, outL, outD, wantedV, opV, An.mid, thawV, St.settle, D.plainU, prune, envOf, get, put, eval, evalT, nz, argsV, capsV, ofV, binV, binV.aggV, unV, intV, eqOp, isConst, natV, optV, loadV, loadC, storeV, setC, St.at_, partV, partTy, indexAddrV, fieldAddrV, sliceV, sliceV.rowSl, sliceV.strSl, bounds, cutP, builtinV, lenV, maxL, maxV, appendV, St.elems, roomy, rowOf, rowS, isStr, esz, tdOf, convV, buildV, fillV, partsV, okParts, fillL, D.whole, D.demoteC, D.demote, demoteL, D.global, D.flat, D.leaf, D.cells, TI.agg, TD.rowish, callOpV, moveL, CC, keepB, St.borrowL, St.borrow, D.isLsl, adoptR, adoptC, adoptCL, adoptL, adopt, List.toArray, Array.toList, Nat.reduceEqDiff, Nat.reduceAdd, Nat.reduceSub, Nat.reduceMul, Nat.reduceLeDiff, Nat.reduceLT, reduceIte, reduceCtorEq, forall_const, imp_self, Int.reduceNeg, Int.reduceLT, Int.reduceLE, Int.reduceGT, Int.reduceGE, Int.reduceAdd, Int.reduceSub, Int.reduceMul, Int.reduceToNat, Int.reduceEq, ne_eq, eq_self]
        · have j3 : ¬ ((c.toNat : Nat) : Int) = ((s / 256 % 256 : Nat) : Int) := by omega
          rw [decide_eq_false (fun h => k3 h.2.2.1 : ¬ (_ ∧ _))]
          simp only [fi143, Tryd.f143, an143, hx, w0, w1, w2, w3, w4, w5, w6, w7, w8, w9, e1, e2, e3, e4, e5, h2, q1, q2, q3, d1, d2, d3, d4, j1, j2, j3, List.getElem?_map, Option.map_some, byteD, Int.toNat_natCast, T3, T5, T68, T237, EL, e_finWf, e_finWt, e_finMN, e_finMX, retM, meltV, tupV, D.asBox, D.row1, D.freeR, D.freeO, List.replicate_succ, stepD, accs, accP, accW, simpleOp, isAl, isExt, flipD, D.fresh1, D.row, D.plain, D.plain.plainL, St.close, St.close1, St.borrow, retV, resV, resL, outCL, outC, outL, outD, wantedV, opV, An.mid, thawV, St.settle, D.plainU, prune, envOf, get, put, eval, evalT, nz, argsV, capsV, ofV, binV, binV.aggV, unV, intV, eqOp, isConst, natV, optV, loadV, loadC, storeV, setC, St.at_, partV, partTy, indexAddrV, fieldAddrV, sliceV, sliceV.rowSl, sliceV.strSl, bounds, cutP, builtinV, lenV, maxL, maxV, appendV, St.elems, roomy, rowOf, rowS, isStr, esz, tdOf, convV, buildV, fillV, partsV, okParts, fillL, D.whole, D.demoteC, D.demote, demoteL, D.global, D.flat, D.leaf, D.cells, TI.agg, TD.rowish, callOpV, moveL, CC, keepB, St.borrowL, St.borrow, D.isLsl, adoptR, adoptC, adoptCL, adoptL, adopt, List.toArray, Array.toList, Nat.reduceEqDiff, Nat.reduceAdd, Nat.reduceSub, Nat.reduceMul, Nat.reduceLeDiff, Nat.reduceLT, reduceIte, reduceCtorEq, forall_const, imp_self, Int.reduceNeg, Int.reduceLT, Int.reduceLE, Int.reduceGT, Int.reduceGE, Int.reduceAdd, Int.reduceSub, Int.reduceMul, Int.reduceToNat, Int.reduceEq, ne_eq, eq_self]
      · have j2 : ¬ ((b.toNat : Nat) : Int) = ((s / 65536 % 256 : Nat) : Int) := by omega
        rw [decide_eq_false (fun h => k2 h.2.1 : ¬ (_ ∧ _))]
        simp only [fi143, Tryd.f143, an143, hx, w0, w1, w2, w3, w4, w5, w6, w7, w8, w9, e1, e2, e3, e4, e5, h2, q1, q2, q3, d1, d2, d3, d4, j1, j2, List.getElem?_map, Option.map_some, byteD, Int.toNat_natCast, T3, T5, T68, T237, EL, e_finWf, e_finWt, e_finMN, e_finMX, retM, meltV, tupV, D.asBox, D.row1, D.freeR, D.freeO, List.replicate_succ, stepD, accs, accP, accW, simpleOp, isAl, isExt, flipD, D.fresh1, D.row, D.plain, D.plain.plainL, St.close, St.close1, St.borrow, retV, resV, resL, outCL, outC, outL, outD, wantedV, opV, An.mid, thawV, St.settle, D.plainU, prune, envOf, get, put, eval, evalT, nz, argsV, capsV, ofV, binV, binV.aggV, unV, intV, eqOp, isConst, natV, optV, loadV, loadC, storeV, setC, St.at_, partV, partTy, indexAddrV, fieldAddrV, sliceV, sliceV.rowSl, sliceV.strSl, bounds, cutP, builtinV, lenV, maxL, maxV, appendV, St.elems, roomy, rowOf, rowS, isStr, esz, tdOf, convV, buildV, fillV, partsV, okParts, fillL, D.whole, D.demoteC, D.demote, demoteL, D.global, D.flat, D.leaf, D.cells, TI.agg, TD.rowish, callOpV, moveL, CC, keepB, St.borrowL, St.borrow, D.isLsl, adoptR, adoptC, adoptCL, adoptL, adopt, List.toArray, Array.toList, Nat.reduceEqDiff, Nat.reduceAdd, Nat.reduceSub, Nat.reduceMul, Nat.reduceLeDiff, Nat.reduceLT, reduceIte, reduceCtorEq, forall_const, imp_self, Int.reduceNeg, Int.reduceLT, Int.reduceLE, Int.reduceGT, Int.reduceGE, Int.reduceAdd, Int.reduceSub, Int.reduceMul, Int.reduceToNat, Int.reduceEq, ne_eq, eq_self]
    · have j1 : ¬ ((a.toNat : Nat) : Int) = ((s / 16777216 : Nat) : Int) := by omega
      rw [decide_eq_false (fun h => k1 h.1 : ¬ (_ ∧ _))]
      simp only [fi143, Tryd.f143, an143, hx, w0, w1, w2, w3, w4, w5, w6, w7, w8, w9, e1, e2, e3, e4, e5, h2, q1, q2, q3, d1, d2, d3, d4, j1, List.getElem?_map, Option.map_some, byteD, Int.toNat_natCast, T3, T5, T68, T237, EL, e_finWf, e_finWt, e_finMN, e_finMX, retM, meltV, tupV, D.asBox, D.row1, D.freeR, D.freeO, List.replicate_succ, stepD, accs, accP, accW, simpleOp, isAl, isExt, flipD, D.fresh1, D.row, D.plain, D.plain.plainL, St.close, St.close1, St.borrow, retV, resV, resL, outCL, outC, outL, outD, wantedV, opV, An.mid, thawV, St.settle, D.plainU, prune, envOf, get, put, eval, evalT, nz, argsV, capsV, ofV, binV, binV.aggV, unV, intV, eqOp, isConst, natV, optV, loadV, loadC, storeV, setC, St.at_, partV, partTy, indexAddrV, fieldAddrV, sliceV, sliceV.rowSl, sliceV.strSl, bounds, cutP, builtinV, lenV, maxL, maxV, appendV, St.elems, roomy, rowOf, rowS, isStr, esz, tdOf, convV, buildV, fillV, partsV, okParts, fillL, D.whole, D.demoteC, D.demote, demoteL, D.global, D.flat, D.leaf, D.cells, TI.agg, TD.rowish, callOpV, moveL, CC, keepB, St.borrowL, St.borrow, D.isLsl, adoptR, adoptC, adoptCL, adoptL, adopt, List.toArray, Array.toList, Nat.reduceEqDiff, Nat.reduceAdd, Nat.reduceSub, Nat.reduceMul, Nat.reduceLeDiff, Nat.reduceLT, reduceIte, reduceCtorEq, forall_const, imp_self, Int.reduceNeg, Int.reduceLT, Int.reduceLE, Int.reduceGT, Int.reduceGE, Int.reduceAdd, Int.reduceSub, Int.reduceMul, Int.reduceToNat, Int.reduceEq, ne_eq, eq_self]
  · have hb : isL l = false := by simp [isL, h4]
    rw [hb]
    have w2 : (l.length : Int) < 4 := by omega
    simp only [fi143, Tryd.f143, an143, w2, T3, T5, T68, T237, EL, e_finWf, e_finWt, e_finMN, e_finMX, retM, meltV, tupV, D.asBox, D.row1, D.freeR, D.freeO, List.replicate_succ, stepD, accs, accP, accW, simpleOp, isAl, isExt, flipD, D.fresh1, D.row, D.plain, D.plain.plainL, St.close, St.close1, St.borrow, retV, resV, resL, outCL, outC, outL, outD, wantedV, opV, An.mid, thawV, St.settle, D.plainU, prune, envOf, get, put, eval, evalT, nz, argsV, capsV, ofV, binV, binV.aggV, unV, intV, eqOp, isConst, natV, optV, loadV, loadC, storeV, setC, St.at_, partV, partTy, indexAddrV, fieldAddrV, sliceV, sliceV.rowSl, sliceV.strSl, bounds, cutP, builtinV, lenV, maxL, maxV, appendV, St.elems, roomy, rowOf, rowS, isStr, esz, tdOf, convV, buildV, fillV, partsV, okParts, fillL, D.whole, D.demoteC, D.demote, demoteL, D.global, D.flat, D.leaf, D.cells, TI.agg, TD.rowish, callOpV, moveL, CC, keepB, St.borrowL, St.borrow, D.isLsl, adoptR, adoptC, adoptCL, adoptL, adopt, List.toArray, Array.toList, Nat.reduceEqDiff, Nat.reduceAdd, Nat.reduceSub, Nat.reduceMul, Nat.reduceLeDiff, Nat.reduceLT, reduceIte, reduceCtorEq, forall_const, imp_self, Int.reduceNeg, Int.reduceLT, Int.reduceLE, Int.reduceGT, Int.reduceGE, Int.reduceAdd, Int.reduceSub, Int.reduceMul, Int.reduceToNat, Int.reduceEq, ne_eq, eq_self]

theorem c143 (hC : LibCrc C) (l : List UInt8) (hl : l.length ≤ 1000000) (B : Hp) : C 143 [.vec 1 (l.map byteD) .none] B = some (.bool (isL l), B) := hC.f143 _ _ _ (run143 hC l hl B)

end Go.Proofs.YtnhelkclkdfndaaDoor.V
