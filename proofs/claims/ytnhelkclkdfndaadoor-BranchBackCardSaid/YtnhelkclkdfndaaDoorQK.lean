/-
Layer 9: BranchBack.
-/
import Derived.Test.YtnhelkclkdfndaaDoorQJ
namespace Go.Proofs.YtnhelkclkdfndaaDoor.V
open Go Go.RowKit
set_option linter.unusedSimpArgs false
set_option linter.unusedVariables false

variable {C : Callees}

set_option maxRecDepth 20000 in
set_option maxHeartbeats 4000000 in
theorem run13 (hC : Known09 C) (ks : List Ky) (ns : List Int) (hk : ks.length ≤ 9223372036854775807) (key : Ky) : runV T C fi13 [.agg [strR ks .none, intR ns .none], .str key] [] = some (.bool true, []) := by
  rw [e_run _ _ _ rfl]
  have hL := hC.toLib09C
  have c0 := c66 hC
  rcases run65 C ks ns hk [] with h | ⟨h1, h2, h3, h⟩
  · have b1 := hL.f65 _ _ _ h
    simp only [fi13, Tryd.f13, an13, c0, b1, T3, T5, T9, T33, T68, T137, T145, T147, T149, EL, e_finWf, e_finWt, e_finMN, e_finMX, retM, meltV, tupV, D.asBox, D.row1, D.freeR, D.freeO, List.replicate_succ, stepD, accs, accP, accW, simpleOp, isAl, isExt, flipD, D.fresh1, D.row, D.plain, D.plain.plainL, St.close, St.close1, St.borrow, retV, resV, resL, outCL, outC, outL, outD, wantedV, opV, An.mid, thawV, St.settle, D.plainU, prune, envOf, get, put, eval, evalT, nz, argsV, capsV, ofV, binV, binV.aggV, unV, intV, eqOp, isConst, natV, optV, loadV, loadC, storeV, setC, St.at_, partV, partTy, indexAddrV, fieldAddrV, sliceV, sliceV.rowSl, sliceV.strSl, bounds, cutP, builtinV, lenV, maxL, maxV, appendV, St.elems, roomy, rowOf, rowS, isStr, esz, tdOf, convV, buildV, fillV, partsV, okParts, fillL, D.whole, D.demoteC, D.demote, demoteL, D.global, D.flat, D.leaf, D.cells, TI.agg, TD.rowish, callOpV, moveL, CC, keepB, St.borrowL, St.borrow, D.isLsl, adoptR, adoptC, adoptCL, adoptL, adopt, List.toArray, Array.toList, Nat.reduceEqDiff, Nat.reduceAdd, Nat.reduceSub, Nat.reduceMul, Nat.reduceLeDiff, Nat.reduceLT, reduceIte, reduceCtorEq, forall_const, imp_self, Int.reduceNeg, Int.reduceLT, Int.reduceLE, Int.reduceGT, Int.reduceGE, Int.reduceAdd, Int.reduceSub, Int.reduceMul, Int.reduceToNat, Int.reduceEq, ne_eq, eq_self]
  have b1 := hL.f65 _ _ _ h
  have c5 := c73 hL.toLib09A ks ns (by omega) (by omega) []
  unfold mayFE at c5
  cases hm : mayF ks ns with
  | false =>
    rw [hm, if_neg (by decide), errD_pos (by decide)] at c5
    simp only [fi13, Tryd.f13, an13, c0, b1, c5, T3, T5, T9, T33, T68, T137, T145, T147, T149, EL, e_finWf, e_finWt, e_finMN, e_finMX, retM, meltV, tupV, D.asBox, D.row1, D.freeR, D.freeO, List.replicate_succ, stepD, accs, accP, accW, simpleOp, isAl, isExt, flipD, D.fresh1, D.row, D.plain, D.plain.plainL, St.close, St.close1, St.borrow, retV, resV, resL, outCL, outC, outL, outD, wantedV, opV, An.mid, thawV, St.settle, D.plainU, prune, envOf, get, put, eval, evalT, nz, argsV, capsV, ofV, binV, binV.aggV, unV, intV, eqOp, isConst, natV, optV, loadV, loadC, storeV, setC, St.at_, partV, partTy, indexAddrV, fieldAddrV, sliceV, sliceV.rowSl, sliceV.strSl, bounds, cutP, builtinV, lenV, maxL, maxV, appendV, St.elems, roomy, rowOf, rowS, isStr, esz, tdOf, convV, buildV, fillV, partsV, okParts, fillL, D.whole, D.demoteC, D.demote, demoteL, D.global, D.flat, D.leaf, D.cells, TI.agg, TD.rowish, callOpV, moveL, CC, keepB, St.borrowL, St.borrow, D.isLsl, adoptR, adoptC, adoptCL, adoptL, adopt, List.toArray, Array.toList, Nat.reduceEqDiff, Nat.reduceAdd, Nat.reduceSub, Nat.reduceMul, Nat.reduceLeDiff, Nat.reduceLT, reduceIte, reduceCtorEq, forall_const, imp_self, Int.reduceNeg, Int.reduceLT, Int.reduceLE, Int.reduceGT, Int.reduceGE, Int.reduceAdd, Int.reduceSub, Int.reduceMul, Int.reduceToNat, Int.reduceEq, ne_eq, eq_self]
  | true =>
    rw [hm, if_pos rfl, errD_zero] at c5
    obtain ⟨m1, m2, m3, m4⟩ := may_at hm
    have hkk := may_keys hm
    obtain ⟨n, w1, w2, w3, c6⟩ := c75 hL.toLib09A ks key (by omega) (sort_of m3) []
    have c1 := c67 hL.toLib09B ks ns (by omega) (by omega) []
    have c7 := c76 hL.toLib09A ks (by omega) (fun k hk => (hkk k hk).2) []
    have c8 := c72 hL ks ns (by omega) (by omega) []
    have g0 : ¬ (n : Int) < 0 := by omega
    have g1 : ¬ (n : Int) > ks.length := by omega
    have z0 := pnat n
    have z1 := pnat (n - 1)
    -- the way
    have key1 : 0 < n → ((n : Int) > 0) ∧ IntKind.i64.wrap ((n : Int) - 1) = ((n - 1 : Nat) : Int) ∧ (ks.map D.str)[n - 1]? = some (.str (ks.getD (n - 1) [])) ∧ strV .gtr (ks.getD (n - 1) []) key = some (.bool false) := fun h => by
      refine ⟨by omega, by rw [wrapI (by omega) (by omega)]; omega, str_get (by omega), ?_⟩
      have := w2 h
      show some (D.bool (!(lt _ _ || _ == _))) = _
      rw [this]; rfl
    have key2 : n < ks.length → ((n : Int) < ks.length) ∧ (ks.map D.str)[n]? = some (.str (ks.getD n [])) ∧ strV .leq (ks.getD n []) key = some (.bool false) := fun h => by
      refine ⟨by omega, str_get h, ?_⟩
      have := w3 h
      show some (D.bool (lt _ _ || _ == _)) = _
      rw [this]
    by_cases hs : sizeF ks ≤ 504
    · have s1 : ¬ (sizeF ks : Int) > 504 := by omega
      have ee : encE ks ns = 0 := by unfold encE; rw [hm, if_pos rfl, if_pos hs]
      have hlen := encF_len m2 (fun k hk => (hkk k hk).2)
      have hpos : 2 ≤ sizeF ks := by cases ks <;> simp [sizeF]; omega
      unfold encV at c1
      rw [ee, if_pos rfl, errD_zero] at c1
      have c2 := c69 hL.toLib09B (encF ks ns) (by omega)
      rw [decF_enc hm hs] at c2
      simp only [fkD, fkE, errD_zero] at c2
      have c3 := c69 hL.toLib09B ((encF ks ns).take (sizeF ks - 1)) (by rw [List.length_take]; omega)
      have hcut := decF_cut hm
      rw [hlen] at hcut
      rw [hcut] at c3
      simp only [fkD, fkE, errD_pos (by decide : (3 : Nat) ≠ 0), nlit9] at c3
      have q3 := num3 hC []
      have x1 : IntKind.i64.wrap ((sizeF ks : Int) - 1) = ((sizeF ks - 1 : Nat) : Int) := by rw [wrapI (by omega) (by omega)]; omega
      have x2 : ((sizeF ks - 1 : Nat) : Int) > 0 := by omega
      have x3 := pnat (sizeF ks - 1)
      have x4 : sizeF ks - 1 ≤ sizeF ks := by omega
      generalize encF ks ns = P at c1 c2 c3 hlen
      rcases Nat.eq_zero_or_pos n with hn | hn
      · have k1 : ¬ (n : Int) > 0 := by omega
        obtain ⟨k5, k6, k7⟩ := key2 (by omega)
        simp only [fi13, Tryd.f13, an13, c0, b1, c5, c6, g0, g1, z0, z1, k1, k5, k6, k7, c1, c7, s1, c2, c3, c8, q3, x1, x2, x3, x4, hlen, nlit9, sD_leaf, sD_glob, iD_leaf, iD_glob, Int.toNat_natCast, T3, T5, T9, T33, T68, T137, T145, T147, T149, EL, e_finWf, e_finWt, e_finMN, e_finMX, retM, meltV, tupV, D.asBox, D.row1, D.freeR, D.freeO, List.replicate_succ, stepD, accs, accP, accW, simpleOp, isAl, isExt, flipD, D.fresh1, D.row, D.plain, D.plain.plainL, St.close, St.close1, St.borrow, retV, resV, resL, outCL, outC, outL, outD, wantedV, opV, An.mid, thawV, St.settle, D.plainU, prune, envOf, get, put, eval, evalT, nz, argsV, capsV, ofV, binV, binV.aggV, unV, intV, eqOp, isConst, natV, optV, loadV, loadC, storeV, setC, St.at_, partV, partTy, indexAddrV, fieldAddrV, sliceV, sliceV.rowSl, sliceV.strSl, bounds, cutP, builtinV, lenV, maxL, maxV, appendV, St.elems, roomy, rowOf, rowS, isStr, esz, tdOf, convV, buildV, fillV, partsV, okParts, fillL, D.whole, D.demoteC, D.demote, demoteL, D.global, D.flat, D.leaf, D.cells, TI.agg, TD.rowish, callOpV, moveL, CC, keepB, St.borrowL, St.borrow, D.isLsl, adoptR, adoptC, adoptCL, adoptL, adopt, List.toArray, Array.toList, Nat.reduceEqDiff, Nat.reduceAdd, Nat.reduceSub, Nat.reduceMul, Nat.reduceLeDiff, Nat.reduceLT, reduceIte, reduceCtorEq, forall_const, imp_self, Int.reduceNeg, Int.reduceLT, Int.reduceLE, Int.reduceGT, Int.reduceGE, Int.reduceAdd, Int.reduceSub, Int.reduceMul, Int.reduceToNat, Int.reduceEq, ne_eq, eq_self]
        done
      · obtain ⟨k1, k2, k3, k4⟩ := key1 hn
        rcases Nat.lt_or_ge n ks.length with hn2 | hn2
        · obtain ⟨k5, k6, k7⟩ := key2 hn2
          simp only [fi13, Tryd.f13, an13, c0, b1, c5, c6, g0, g1, z0, z1, k1, k2, k3, k4, k5, k6, k7, c1, c7, s1, c2, c3, c8, q3, x1, x2, x3, x4, hlen, nlit9, sD_leaf, sD_glob, iD_leaf, iD_glob, Int.toNat_natCast, T3, T5, T9, T33, T68, T137, T145, T147, T149, EL, e_finWf, e_finWt, e_finMN, e_finMX, retM, meltV, tupV, D.asBox, D.row1, D.freeR, D.freeO, List.replicate_succ, stepD, accs, accP, accW, simpleOp, isAl, isExt, flipD, D.fresh1, D.row, D.plain, D.plain.plainL, St.close, St.close1, St.borrow, retV, resV, resL, outCL, outC, outL, outD, wantedV, opV, An.mid, thawV, St.settle, D.plainU, prune, envOf, get, put, eval, evalT, nz, argsV, capsV, ofV, binV, binV.aggV, unV, intV, eqOp, isConst, natV, optV, loadV, loadC, storeV, setC, St.at_, partV, partTy, indexAddrV, fieldAddrV, sliceV, sliceV.rowSl, sliceV.strSl, bounds, cutP, builtinV, lenV, maxL, maxV, appendV, St.elems, roomy, rowOf, rowS, isStr, esz, tdOf, convV, buildV, fillV, partsV, okParts, fillL, D.whole, D.demoteC, D.demote, demoteL, D.global, D.flat, D.leaf, D.cells, TI.agg, TD.rowish, callOpV, moveL, CC, keepB, St.borrowL, St.borrow, D.isLsl, adoptR, adoptC, adoptCL, adoptL, adopt, List.toArray, Array.toList, Nat.reduceEqDiff, Nat.reduceAdd, Nat.reduceSub, Nat.reduceMul, Nat.reduceLeDiff, Nat.reduceLT, reduceIte, reduceCtorEq, forall_const, imp_self, Int.reduceNeg, Int.reduceLT, Int.reduceLE, Int.reduceGT, Int.reduceGE, Int.reduceAdd, Int.reduceSub, Int.reduceMul, Int.reduceToNat, Int.reduceEq, ne_eq, eq_self]
          done
        · have k5 : ¬ (n : Int) < ks.length := by omega
          simp only [fi13, Tryd.f13, an13, c0, b1, c5, c6, g0, g1, z0, z1, k1, k2, k3, k4, k5, c1, c7, s1, c2, c3, c8, q3, x1, x2, x3, x4, hlen, nlit9, sD_leaf, sD_glob, iD_leaf, iD_glob, Int.toNat_natCast, T3, T5, T9, T33, T68, T137, T145, T147, T149, EL, e_finWf, e_finWt, e_finMN, e_finMX, retM, meltV, tupV, D.asBox, D.row1, D.freeR, D.freeO, List.replicate_succ, stepD, accs, accP, accW, simpleOp, isAl, isExt, flipD, D.fresh1, D.row, D.plain, D.plain.plainL, St.close, St.close1, St.borrow, retV, resV, resL, outCL, outC, outL, outD, wantedV, opV, An.mid, thawV, St.settle, D.plainU, prune, envOf, get, put, eval, evalT, nz, argsV, capsV, ofV, binV, binV.aggV, unV, intV, eqOp, isConst, natV, optV, loadV, loadC, storeV, setC, St.at_, partV, partTy, indexAddrV, fieldAddrV, sliceV, sliceV.rowSl, sliceV.strSl, bounds, cutP, builtinV, lenV, maxL, maxV, appendV, St.elems, roomy, rowOf, rowS, isStr, esz, tdOf, convV, buildV, fillV, partsV, okParts, fillL, D.whole, D.demoteC, D.demote, demoteL, D.global, D.flat, D.leaf, D.cells, TI.agg, TD.rowish, callOpV, moveL, CC, keepB, St.borrowL, St.borrow, D.isLsl, adoptR, adoptC, adoptCL, adoptL, adopt, List.toArray, Array.toList, Nat.reduceEqDiff, Nat.reduceAdd, Nat.reduceSub, Nat.reduceMul, Nat.reduceLeDiff, Nat.reduceLT, reduceIte, reduceCtorEq, forall_const, imp_self, Int.reduceNeg, Int.reduceLT, Int.reduceLE, Int.reduceGT, Int.reduceGE, Int.reduceAdd, Int.reduceSub, Int.reduceMul, Int.reduceToNat, Int.reduceEq, ne_eq, eq_self]
          done
    · have s1 : (sizeF ks : Int) > 504 := by omega
      have ee : encE ks ns = 5 := by unfold encE; rw [hm, if_pos rfl, if_neg hs]
      unfold encV at c1
      rw [ee, if_neg (by decide), errD_pos (by decide)] at c1
      simp only [nlit9] at c1
      have q5 := num5 hC []
      rcases Nat.eq_zero_or_pos n with hn | hn
      · have k1 : ¬ (n : Int) > 0 := by omega
        obtain ⟨k5, k6, k7⟩ := key2 (by omega)
        simp only [fi13, Tryd.f13, an13, c0, b1, c5, c6, g0, g1, z0, z1, k1, k5, k6, k7, c1, c7, s1, q5, Int.toNat_natCast, T3, T5, T9, T33, T68, T137, T145, T147, T149, EL, e_finWf, e_finWt, e_finMN, e_finMX, retM, meltV, tupV, D.asBox, D.row1, D.freeR, D.freeO, List.replicate_succ, stepD, accs, accP, accW, simpleOp, isAl, isExt, flipD, D.fresh1, D.row, D.plain, D.plain.plainL, St.close, St.close1, St.borrow, retV, resV, resL, outCL, outC, outL, outD, wantedV, opV, An.mid, thawV, St.settle, D.plainU, prune, envOf, get, put, eval, evalT, nz, argsV, capsV, ofV, binV, binV.aggV, unV, intV, eqOp, isConst, natV, optV, loadV, loadC, storeV, setC, St.at_, partV, partTy, indexAddrV, fieldAddrV, sliceV, sliceV.rowSl, sliceV.strSl, bounds, cutP, builtinV, lenV, maxL, maxV, appendV, St.elems, roomy, rowOf, rowS, isStr, esz, tdOf, convV, buildV, fillV, partsV, okParts, fillL, D.whole, D.demoteC, D.demote, demoteL, D.global, D.flat, D.leaf, D.cells, TI.agg, TD.rowish, callOpV, moveL, CC, keepB, St.borrowL, St.borrow, D.isLsl, adoptR, adoptC, adoptCL, adoptL, adopt, List.toArray, Array.toList, Nat.reduceEqDiff, Nat.reduceAdd, Nat.reduceSub, Nat.reduceMul, Nat.reduceLeDiff, Nat.reduceLT, reduceIte, reduceCtorEq, forall_const, imp_self, Int.reduceNeg, Int.reduceLT, Int.reduceLE, Int.reduceGT, Int.reduceGE, Int.reduceAdd, Int.reduceSub, Int.reduceMul, Int.reduceToNat, Int.reduceEq, ne_eq, eq_self]
        done
      · obtain ⟨k1, k2, k3, k4⟩ := key1 hn
        rcases Nat.lt_or_ge n ks.length with hn2 | hn2
        · obtain ⟨k5, k6, k7⟩ := key2 hn2
          simp only [fi13, Tryd.f13, an13, c0, b1, c5, c6, g0, g1, z0, z1, k1, k2, k3, k4, k5, k6, k7, c1, c7, s1, q5, Int.toNat_natCast, T3, T5, T9, T33, T68, T137, T145, T147, T149, EL, e_finWf, e_finWt, e_finMN, e_finMX, retM, meltV, tupV, D.asBox, D.row1, D.freeR, D.freeO, List.replicate_succ, stepD, accs, accP, accW, simpleOp, isAl, isExt, flipD, D.fresh1, D.row, D.plain, D.plain.plainL, St.close, St.close1, St.borrow, retV, resV, resL, outCL, outC, outL, outD, wantedV, opV, An.mid, thawV, St.settle, D.plainU, prune, envOf, get, put, eval, evalT, nz, argsV, capsV, ofV, binV, binV.aggV, unV, intV, eqOp, isConst, natV, optV, loadV, loadC, storeV, setC, St.at_, partV, partTy, indexAddrV, fieldAddrV, sliceV, sliceV.rowSl, sliceV.strSl, bounds, cutP, builtinV, lenV, maxL, maxV, appendV, St.elems, roomy, rowOf, rowS, isStr, esz, tdOf, convV, buildV, fillV, partsV, okParts, fillL, D.whole, D.demoteC, D.demote, demoteL, D.global, D.flat, D.leaf, D.cells, TI.agg, TD.rowish, callOpV, moveL, CC, keepB, St.borrowL, St.borrow, D.isLsl, adoptR, adoptC, adoptCL, adoptL, adopt, List.toArray, Array.toList, Nat.reduceEqDiff, Nat.reduceAdd, Nat.reduceSub, Nat.reduceMul, Nat.reduceLeDiff, Nat.reduceLT, reduceIte, reduceCtorEq, forall_const, imp_self, Int.reduceNeg, Int.reduceLT, Int.reduceLE, Int.reduceGT, Int.reduceGE, Int.reduceAdd, Int.reduceSub, Int.reduceMul, Int.reduceToNat, Int.reduceEq, ne_eq, eq_self]
          done
        · have k5 : ¬ (n : Int) < ks.length := by omega
          simp only [fi13, Tryd.f13, an13, c0, b1, c5, c6, g0, g1, z0, z1, k1, k2, k3, k4, k5, c1, c7, s1, q5, Int.toNat_natCast, T3, T5, T9, T33, T68, T137, T145, T147, T149, EL, e_finWf, e_finWt, e_finMN, e_finMX, retM, meltV, tupV, D.asBox, D.row1, D.freeR, D.freeO, List.replicate_succ, stepD, accs, accP, accW, simpleOp, isAl, isExt, flipD, D.fresh1, D.row, D.plain, D.plain.plainL, St.close, St.close1, St.borrow, retV, resV, resL, outCL, outC, outL, outD, wantedV, opV, An.mid, thawV, St.settle, D.plainU, prune, envOf, get, put, eval, evalT, nz, argsV, capsV, ofV, binV, binV.aggV, unV, intV, eqOp, isConst, natV, optV, loadV, loadC, storeV, setC, St.at_, partV, partTy, indexAddrV, fieldAddrV, sliceV, sliceV.rowSl, sliceV.strSl, bounds, cutP, builtinV, lenV, maxL, maxV, appendV, St.elems, roomy, rowOf, rowS, isStr, esz, tdOf, convV, buildV, fillV, partsV, okParts, fillL, D.whole, D.demoteC, D.demote, demoteL, D.global, D.flat, D.leaf, D.cells, TI.agg, TD.rowish, callOpV, moveL, CC, keepB, St.borrowL, St.borrow, D.isLsl, adoptR, adoptC, adoptCL, adoptL, adopt, List.toArray, Array.toList, Nat.reduceEqDiff, Nat.reduceAdd, Nat.reduceSub, Nat.reduceMul, Nat.reduceLeDiff, Nat.reduceLT, reduceIte, reduceCtorEq, forall_const, imp_self, Int.reduceNeg, Int.reduceLT, Int.reduceLE, Int.reduceGT, Int.reduceGE, Int.reduceAdd, Int.reduceSub, Int.reduceMul, Int.reduceToNat, Int.reduceEq, ne_eq, eq_self]
          done

end Go.Proofs.YtnhelkclkdfndaaDoor.V
