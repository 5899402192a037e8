/-
Layer 9: the document's forks out of loads; forks compared.
-/
import Derived.Test.YtnhelkclkdfndaaDoorQG
namespace Go.Proofs.YtnhelkclkdfndaaDoor.V
open Go Go.RowKit
set_option linter.unusedSimpArgs false
set_option linter.unusedVariables false

variable {C : Callees}

theorem c121_none (hC : Lib09C C) (q : List UInt8) (hq : q.length ≤ 1000) (h : (bytesP (some q) 40).1 = .none) (B : Hp) : C 121 [.agg [.vec 1 (q.map byteD) .none, .bool false], .int .i64 40] B = some (.tuple [.agg [.vec 1 [] .fresh, .bool true], .vec 1 [] .fresh], B) := by
  have := c121 hC.toLibPackB q false 40 (by decide) (by omega) B
  unfold rbD at this
  rcases hx : bytesP (some q) 40 with ⟨_ | r, k⟩
  · rw [hx] at this; exact this
  · rw [hx] at h; cases h
theorem c121_some (hC : Lib09C C) (q : List UInt8) (hq : q.length ≤ 1000) {r : List UInt8} (h : (bytesP (some q) 40).1 = some r) (B : Hp) : C 121 [.agg [.vec 1 (q.map byteD) .none, .bool false], .int .i64 40] B = some (.tuple [.agg [.vec 1 (r.map byteD) .none, .bool false], .vec 1 ((bytesP (some q) 40).2.map byteD) .none], B) := by
  have := c121 hC.toLibPackB q false 40 (by decide) (by omega) B
  unfold rbD at this
  rcases hx : bytesP (some q) 40 with ⟨_ | r', k⟩
  · rw [hx] at h; cases h
  · rw [hx] at this h
    injection h with h
    subst h
    exact this

def st70 (B : Hp) (x : List UInt8 × List Ky × List Int × Bool) : St := ⟨[(2, .lptr 0 0), (4, .lptr 1 0), (5, .lptr 2 0)], [some zFk, some [strR x.2.1 (bif x.2.2.2 then .own 0 else .exact), intR x.2.2.1 (bif x.2.2.2 then .own 1 else .exact)], some [.vec 1 (x.1.map byteD) .none, .bool false]], bif x.2.2.2 then [true, true] else [], B⟩

theorem inv_bad {l q : List UInt8} {ks : List Ky} {ns : List Int} (h : Inv9 l (some q) ks ns) (hq : q ≠ []) (hb : ∀ a b r, (bytesP (some q) 40).1 ≠ some (a :: b :: r)) : decL l = .none := by
  rw [h.ok q rfl, parseF_bad hq hb]; rfl
theorem inv_step {l q : List UInt8} {ks : List Ky} {ns : List Int} (h : Inv9 l (some q) ks ns) (hq : q ≠ []) {a b : UInt8} {r : List UInt8} (hx : (bytesP (some q) 40).1 = some (a :: b :: r)) :
    Inv9 l (some r) (ks ++ [(bytesP (some q) 40).2]) (ns ++ [((a.toNat * 256 + b.toNat : Nat) : Int)]) ∧ r.length < q.length := by
  have := h.step hq
  rw [hx] at this
  exact this

set_option maxRecDepth 20000 in
set_option maxHeartbeats 4000000 in
theorem loop70 (hC : Lib09C C) (B : Hp) (l : List UInt8) (r0 : List UInt8) (n0 : Int) (h0 : Inv9 l (some r0) [] [n0]) (st : St) (hst : an70.at_ (some 5) st = st70 B (r0, [], [n0], false)) :
    ∃ x st', loopC T an70 C lp70_0 st = some (x, st') ∧ ∃ ρ, ((x = .exit 0 ∧ ∃ ks ns b, st' = ⟨ρ, [some zFk, some [strR ks (bif b then .own 0 else .exact), intR ns (bif b then .own 1 else .exact)], some [.vec 1 [] .none, .bool false]], bif b then [true, true] else [], B⟩ ∧ Inv9 l (some []) ks ns ∧ (b = false → ks = []) ∧ get ρ 2 = .lptr 0 0 ∧ get ρ 4 = .lptr 1 0) ∨
      (x = .ret ∧ ∃ L τ, st' = ⟨ρ, some zFk :: L, τ, B⟩ ∧ decL l = .none ∧ get ρ 2 = .lptr 0 0 ∧ get ρ 3 = .int .i64 3)) := by
  refine loop_rule (st70 B) (fun x => Inv9 l (some x.1) x.2.1 x.2.2.1 ∧ (x.2.2.2 = false → x.2.1 = [])) (fun x => x.1.length) _ ?_ (r0, [], [n0], false) st hst ⟨h0, fun _ => rfl⟩
  rintro ⟨q, ks, ns, b⟩ ⟨hI, hb⟩
  simp only at hI hb
  have hlen := hI.len
  have hkid := hI.kids
  have hql : q.length ≤ 1000 := by simp [leftS] at hlen; omega
  cases q with
  | nil =>
    right
    have g0 : ¬ (0 : Int) > 0 := by decide
    simp only [st70, lp70_0, subC, atC, Tryd.f70, an70, g0, pz0, T3, T4, T5, T9, T68, T137, T145, T147, T188, EL, e_finWf, e_finWt, e_finMN, e_finMX, retM, meltV, tupV, D.asBox, D.row1, D.freeR, D.freeO, List.replicate_succ, stepD, accs, accP, accW, simpleOp, isAl, isExt, flipD, D.fresh1, D.row, D.plain, D.plain.plainL, St.close, St.close1, St.borrow, retV, resV, resL, outCL, outC, outL, outD, wantedV, opV, An.mid, thawV, St.settle, D.plainU, prune, envOf, get, put, eval, evalT, nz, argsV, capsV, ofV, binV, binV.aggV, unV, intV, eqOp, isConst, natV, optV, loadV, loadC, storeV, setC, St.at_, partV, partTy, indexAddrV, fieldAddrV, sliceV, sliceV.rowSl, sliceV.strSl, bounds, cutP, builtinV, lenV, maxL, maxV, appendV, St.elems, roomy, rowOf, rowS, isStr, esz, tdOf, convV, buildV, fillV, partsV, okParts, fillL, D.whole, D.demoteC, D.demote, demoteL, D.global, D.flat, D.leaf, D.cells, TI.agg, TD.rowish, callOpV, moveL, CC, keepB, St.borrowL, St.borrow, D.isLsl, adoptR, adoptC, adoptCL, adoptL, adopt, List.toArray, Array.toList, Nat.reduceEqDiff, Nat.reduceAdd, Nat.reduceSub, Nat.reduceMul, Nat.reduceLeDiff, Nat.reduceLT, reduceIte, reduceCtorEq, forall_const, imp_self, Int.reduceNeg, Int.reduceLT, Int.reduceLE, Int.reduceGT, Int.reduceGE, Int.reduceAdd, Int.reduceSub, Int.reduceMul, Int.reduceToNat, Int.reduceEq, ne_eq, eq_self]
    exact ⟨_, _, rfl, by simp, _, .inl ⟨rfl, _, _, _, rfl, hI, hb, rfl, rfl⟩⟩
  | cons c q' =>
    have g0 : ((q'.length + 1 : Nat) : Int) > 0 := by omega
    have hq : c :: q' ≠ [] := by simp
    have eq : D.int .u8 c.toNat :: q'.map byteD = (c :: q').map byteD := rfl
    unfold st70
    simp only
    cases hx : (bytesP (some (c :: q')) 40).1 with
    | none =>
      have c1 := c121_none hC (c :: q') hql hx
      have hbad := inv_bad hI hq (fun a b r h => by rw [hx] at h; cases h)
      right
      generalize hz : c :: q' = z at c1
      have zl : z.length = q'.length + 1 := by rw [← hz]; rfl
      cases b <;> simp only [cond_true, cond_false] <;>
      · simp only [st70, lp70_0, subC, atC, Tryd.f70, an70, zl, g0, c1, sC_nil, sC_zero, sC_succ, T3, T4, T5, T9, T68, T137, T145, T147, T188, EL, e_finWf, e_finWt, e_finMN, e_finMX, retM, meltV, tupV, D.asBox, D.row1, D.freeR, D.freeO, List.replicate_succ, stepD, accs, accP, accW, simpleOp, isAl, isExt, flipD, D.fresh1, D.row, D.plain, D.plain.plainL, St.close, St.close1, St.borrow, retV, resV, resL, outCL, outC, outL, outD, wantedV, opV, An.mid, thawV, St.settle, D.plainU, prune, envOf, get, put, eval, evalT, nz, argsV, capsV, ofV, binV, binV.aggV, unV, intV, eqOp, isConst, natV, optV, loadV, loadC, storeV, St.at_, partV, partTy, indexAddrV, fieldAddrV, sliceV, sliceV.rowSl, sliceV.strSl, bounds, cutP, builtinV, lenV, maxL, maxV, appendV, St.elems, roomy, rowOf, rowS, isStr, esz, tdOf, convV, buildV, fillV, partsV, okParts, fillL, D.whole, D.demoteC, D.demote, demoteL, D.global, D.flat, D.leaf, D.cells, TI.agg, TD.rowish, callOpV, moveL, CC, keepB, St.borrowL, St.borrow, D.isLsl, adoptR, adoptC, adoptCL, adoptL, adopt, List.toArray, Array.toList, Nat.reduceEqDiff, Nat.reduceAdd, Nat.reduceSub, Nat.reduceMul, Nat.reduceLeDiff, Nat.reduceLT, reduceIte, reduceCtorEq, forall_const, imp_self, Int.reduceNeg, Int.reduceLT, Int.reduceLE, Int.reduceGT, Int.reduceGE, Int.reduceAdd, Int.reduceSub, Int.reduceMul, Int.reduceToNat, Int.reduceEq, ne_eq, eq_self]
        exact ⟨_, _, rfl, by simp, _, .inr ⟨rfl, _, _, rfl, hbad, rfl, rfl⟩⟩
    | some r1 =>
      have c1 := c121_some hC (c :: q') hql hx
      generalize hk : (bytesP (some (c :: q')) 40).2 = x at c1
      match r1, hx, c1 with
      | [], hx, c1 =>
        have hbad := inv_bad hI hq (fun a b r h => by rw [hx] at h; cases h)
        have g1 : (0 : Int) < 2 := by decide
        right
        generalize hz : c :: q' = z at c1
        have zl : z.length = q'.length + 1 := by rw [← hz]; rfl
        cases b <;> simp only [cond_true, cond_false] <;>
        · simp only [st70, lp70_0, subC, atC, Tryd.f70, an70, zl, g0, g1, c1, pz0, sC_nil, sC_zero, sC_succ, T3, T4, T5, T9, T68, T137, T145, T147, T188, EL, e_finWf, e_finWt, e_finMN, e_finMX, retM, meltV, tupV, D.asBox, D.row1, D.freeR, D.freeO, List.replicate_succ, stepD, accs, accP, accW, simpleOp, isAl, isExt, flipD, D.fresh1, D.row, D.plain, D.plain.plainL, St.close, St.close1, St.borrow, retV, resV, resL, outCL, outC, outL, outD, wantedV, opV, An.mid, thawV, St.settle, D.plainU, prune, envOf, get, put, eval, evalT, nz, argsV, capsV, ofV, binV, binV.aggV, unV, intV, eqOp, isConst, natV, optV, loadV, loadC, storeV, St.at_, partV, partTy, indexAddrV, fieldAddrV, sliceV, sliceV.rowSl, sliceV.strSl, bounds, cutP, builtinV, lenV, maxL, maxV, appendV, St.elems, roomy, rowOf, rowS, isStr, esz, tdOf, convV, buildV, fillV, partsV, okParts, fillL, D.whole, D.demoteC, D.demote, demoteL, D.global, D.flat, D.leaf, D.cells, TI.agg, TD.rowish, callOpV, moveL, CC, keepB, St.borrowL, St.borrow, D.isLsl, adoptR, adoptC, adoptCL, adoptL, adopt, List.toArray, Array.toList, Nat.reduceEqDiff, Nat.reduceAdd, Nat.reduceSub, Nat.reduceMul, Nat.reduceLeDiff, Nat.reduceLT, reduceIte, reduceCtorEq, forall_const, imp_self, Int.reduceNeg, Int.reduceLT, Int.reduceLE, Int.reduceGT, Int.reduceGE, Int.reduceAdd, Int.reduceSub, Int.reduceMul, Int.reduceToNat, Int.reduceEq, ne_eq, eq_self]
          exact ⟨_, _, rfl, by simp, _, .inr ⟨rfl, _, _, rfl, hbad, rfl, rfl⟩⟩
      | [y], hx, c1 =>
        have hbad := inv_bad hI hq (fun a b r h => by rw [hx] at h; cases h)
        have g1 : ((0 + 1 : Nat) : Int) < 2 := by decide
        have g1' : ((1 : Nat) : Int) < 2 := by decide
        right
        generalize hz : c :: q' = z at c1
        have zl : z.length = q'.length + 1 := by rw [← hz]; rfl
        cases b <;> simp only [cond_true, cond_false] <;>
        · simp only [st70, lp70_0, subC, atC, Tryd.f70, an70, zl, g0, g1, g1', c1, sC_nil, sC_zero, sC_succ, T3, T4, T5, T9, T68, T137, T145, T147, T188, EL, e_finWf, e_finWt, e_finMN, e_finMX, retM, meltV, tupV, D.asBox, D.row1, D.freeR, D.freeO, List.replicate_succ, stepD, accs, accP, accW, simpleOp, isAl, isExt, flipD, D.fresh1, D.row, D.plain, D.plain.plainL, St.close, St.close1, St.borrow, retV, resV, resL, outCL, outC, outL, outD, wantedV, opV, An.mid, thawV, St.settle, D.plainU, prune, envOf, get, put, eval, evalT, nz, argsV, capsV, ofV, binV, binV.aggV, unV, intV, eqOp, isConst, natV, optV, loadV, loadC, storeV, St.at_, partV, partTy, indexAddrV, fieldAddrV, sliceV, sliceV.rowSl, sliceV.strSl, bounds, cutP, builtinV, lenV, maxL, maxV, appendV, St.elems, roomy, rowOf, rowS, isStr, esz, tdOf, convV, buildV, fillV, partsV, okParts, fillL, D.whole, D.demoteC, D.demote, demoteL, D.global, D.flat, D.leaf, D.cells, TI.agg, TD.rowish, callOpV, moveL, CC, keepB, St.borrowL, St.borrow, D.isLsl, adoptR, adoptC, adoptCL, adoptL, adopt, List.toArray, Array.toList, Nat.reduceEqDiff, Nat.reduceAdd, Nat.reduceSub, Nat.reduceMul, Nat.reduceLeDiff, Nat.reduceLT, reduceIte, reduceCtorEq, forall_const, imp_self, Int.reduceNeg, Int.reduceLT, Int.reduceLE, Int.reduceGT, Int.reduceGE, Int.reduceAdd, Int.reduceSub, Int.reduceMul, Int.reduceToNat, Int.reduceEq, ne_eq, eq_self]
          exact ⟨_, _, rfl, by simp, _, .inr ⟨rfl, _, _, rfl, hbad, rfl, rfl⟩⟩
      | a1 :: b1 :: r, hx, c1 =>
        obtain ⟨hI2, hlt⟩ := inv_step hI hq hx
        rw [hk] at hI2
        left
        refine ⟨(r, ks ++ [x], ns ++ [((a1.toNat * 256 + b1.toNat : Nat) : Int)], true), ?_, ⟨hI2, fun h => by cases h⟩, hlt⟩
        have ha := a1.toNat_lt
        have hb1 := b1.toNat_lt
        have g1 : ¬ ((r.length + 1 + 1 : Nat) : Int) < 2 := by omega
        have g2 : 2 ≤ r.length + 1 + 1 := by omega
        have g3 : 1 ≤ r.length + 1 := by omega
        have w1 : IntKind.i64.wrap (a1.toNat : Int) = a1.toNat := wrapI (by omega) (by omega)
        have w2 : IntKind.i64.wrap (b1.toNat : Int) = b1.toNat := wrapI (by omega) (by omega)
        have w3 : IntKind.i64.wrap (256 * (a1.toNat : Int)) = ((a1.toNat * 256 : Nat) : Int) := by rw [wrapI (by omega) (by omega)]; omega
        have w4 : IntKind.i64.wrap (((a1.toNat * 256 : Nat) : Int) + (b1.toNat : Int)) = ((a1.toNat * 256 + b1.toNat : Nat) : Int) := by rw [wrapI (by omega) (by omega)]; rfl
        have hks : ks.length ≤ 505 := by omega
        have r1 := roomy16 (n := ks.length + 1) (by omega)
        have r2 := roomy8 (n := ns.length + 1) (by omega)
        have e1 := str_app ks x
        have e2 := int_app ns ((a1.toNat * 256 + b1.toNat : Nat) : Int)
        generalize ks ++ [x] = ks2 at e1
        generalize ns ++ [((a1.toNat * 256 + b1.toNat : Nat) : Int)] = ns2 at e2
        generalize hz : c :: q' = z at c1
        have zl : z.length = q'.length + 1 := by rw [← hz]; rfl
        have tl : ∀ (a b : D), ((a :: b :: r.map byteD).take (r.length + 1 + 1)).drop 2 = r.map byteD := fun a b => by
          simp [List.take_of_length_le]
        cases b <;> simp only [cond_true, cond_false] <;>
        · simp only [st70, lp70_0, subC, atC, Tryd.f70, an70, zl, g0, g1, g2, g3, w1, w2, w3, w4, r1, r2, e1, e2, c1, byteD, tl, bytesOf_map, List.take_length, sC_nil, sC_zero, sC_succ, T3, T4, T5, T9, T68, T137, T145, T147, T188, EL, e_finWf, e_finWt, e_finMN, e_finMX, retM, meltV, tupV, D.asBox, D.row1, D.freeR, D.freeO, List.replicate_succ, stepD, accs, accP, accW, simpleOp, isAl, isExt, flipD, D.fresh1, D.row, D.plain, D.plain.plainL, St.close, St.close1, St.borrow, retV, resV, resL, outCL, outC, outL, outD, wantedV, opV, An.mid, thawV, St.settle, D.plainU, prune, envOf, get, put, eval, evalT, nz, argsV, capsV, ofV, binV, binV.aggV, unV, intV, eqOp, isConst, natV, optV, loadV, loadC, storeV, St.at_, partV, partTy, indexAddrV, fieldAddrV, sliceV, sliceV.rowSl, sliceV.strSl, bounds, cutP, builtinV, lenV, maxL, maxV, appendV, St.elems, rowOf, rowS, isStr, esz, tdOf, convV, buildV, fillV, partsV, okParts, fillL, D.whole, D.demoteC, D.demote, demoteL, D.global, D.flat, D.leaf, D.cells, TI.agg, TD.rowish, callOpV, moveL, CC, keepB, St.borrowL, St.borrow, D.isLsl, adoptR, adoptC, adoptCL, adoptL, adopt, List.toArray, Array.toList, Nat.reduceEqDiff, Nat.reduceAdd, Nat.reduceSub, Nat.reduceMul, Nat.reduceLeDiff, Nat.reduceLT, reduceIte, reduceCtorEq, forall_const, imp_self, Int.reduceNeg, Int.reduceLT, Int.reduceLE, Int.reduceGT, Int.reduceGE, Int.reduceAdd, Int.reduceSub, Int.reduceMul, Int.reduceToNat, Int.reduceEq, ne_eq, eq_self]
          refine ⟨_, rfl, ?_⟩
          show an70.at_ (some 5) _ = _
          simp only [an70, ren_map, toks_map, boxes_map, AL, An.at_, tidyV, tidyW, tidyB, tidyT, sift, envBoxes, envToks, conToks, D.toks, D.tok1, toksL, D.boxes, D.box1, boxesL, memN, posN, renE, D.ren, D.ren1, renL, renB, St.content, St.boxOk, St.tokOk, trues, T3, T4, T5, T9, T68, T137, T145, T147, T188, EL, e_finWf, e_finWt, e_finMN, e_finMX, retM, meltV, tupV, D.asBox, D.row1, D.freeR, D.freeO, List.replicate_succ, stepD, accs, accP, accW, simpleOp, isAl, isExt, flipD, D.fresh1, D.row, D.plain, D.plain.plainL, St.close, St.close1, St.borrow, retV, resV, resL, outCL, outC, outL, outD, wantedV, opV, An.mid, thawV, St.settle, D.plainU, prune, envOf, get, put, eval, evalT, nz, argsV, capsV, ofV, binV, binV.aggV, unV, intV, eqOp, isConst, natV, optV, loadV, loadC, storeV, setC, St.at_, partV, partTy, indexAddrV, fieldAddrV, sliceV, sliceV.rowSl, sliceV.strSl, bounds, cutP, builtinV, lenV, maxL, maxV, appendV, St.elems, roomy, rowOf, rowS, isStr, esz, tdOf, convV, buildV, fillV, partsV, okParts, fillL, D.whole, D.demoteC, D.demote, demoteL, D.global, D.flat, D.leaf, D.cells, TI.agg, TD.rowish, callOpV, moveL, CC, keepB, St.borrowL, St.borrow, D.isLsl, adoptR, adoptC, adoptCL, adoptL, adopt, List.toArray, Array.toList, Nat.reduceEqDiff, Nat.reduceAdd, Nat.reduceSub, Nat.reduceMul, Nat.reduceLeDiff, Nat.reduceLT, reduceIte, reduceCtorEq, forall_const, imp_self, Int.reduceNeg, Int.reduceLT, Int.reduceLE, Int.reduceGT, Int.reduceGE, Int.reduceAdd, Int.reduceSub, Int.reduceMul, Int.reduceToNat, Int.reduceEq, ne_eq, eq_self]

end Go.Proofs.YtnhelkclkdfndaaDoor.V
