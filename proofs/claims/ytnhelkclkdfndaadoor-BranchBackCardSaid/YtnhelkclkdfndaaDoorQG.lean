/-
Layer 9: the document's loads, and back.
-/
import Derived.Test.YtnhelkclkdfndaaDoorQF
namespace Go.Proofs.YtnhelkclkdfndaaDoor.V
open Go Go.RowKit
set_option linter.unusedSimpArgs false
set_option linter.unusedVariables false

variable {C : Callees}

theorem byteAt_n9 {s i v : Nat} (h : s / 256 ^ i % 256 = v) : ((byteAt s i).toNat : Int) = (v : Nat) := by
  unfold byteAt
  rw [UInt8.toNat_ofNat', ← h]
theorem kid_bytes {n : Int} (h0 : 2 ≤ n) (h1 : n ≤ 1023) : IntKind.u8.wrap (IntKind.i64.wrap (n.tdiv 256)) = ((byteAt n.toNat 1).toNat : Int) ∧ IntKind.u8.wrap (n.tmod 256) = ((byteAt n.toNat 0).toNat : Int) := by
  constructor
  · rw [Int.tdiv_eq_ediv_of_nonneg (by omega), wrapI (by omega) (by omega), wrap_u8 (by omega) (by omega), byteAt_n9 (v := n.toNat / 256) (by omega)]; omega
  · rw [Int.tmod_eq_emod_of_nonneg (by omega), wrap_u8 (by omega) (by omega), byteAt_n9 (v := n.toNat % 256) (by omega)]; omega

def st68 (B : Hp) (ks : List Ky) (ns : List Int) (x : Nat × List UInt8) : St := ⟨[(1, .lptr 0 0), (4, .vec 1 (x.2.map byteD) (bif Nat.beq x.1 0 then .exact else .own 0)), (5, .int .i64 (x.1 : Nat))], [some [strR ks .none, intR ns .none]], bif Nat.beq x.1 0 then [] else [true], B⟩

set_option maxRecDepth 20000 in
set_option maxHeartbeats 4000000 in
theorem loop68 (hC : Lib09C C) (B : Hp) (ks : List Ky) (ns : List Int) (hm : mayF ks ns = true) (hl : ks.length ≤ 1000) (st : St) (hst : an68.at_ (some 5) st = st68 B ks ns (0, bes (ns.getD 0 0).toNat 2)) :
    ∃ x st', loopC T an68 C lp68_0 st = some (x, st') ∧ x = .exit 0 ∧ ∃ ρ, st' = ⟨ρ, [some [strR ks .none, intR ns .none]], [true], B⟩ ∧ get ρ 4 = .vec 1 ((encF ks ns).map byteD) (.own 0) := by
  obtain ⟨h1, h2, h3, h4⟩ := may_at hm
  have hkk := may_keys hm
  have hnn := may_kids hm
  have hlen : (encF ks ns).length ≤ 44000 := by
    have := encF_len h2 (fun k hk => (hkk k hk).2)
    have := sizeF_le ks (fun k hk => (hkk k hk).2)
    omega
  refine loop_rule (st68 B ks ns) (fun x => x.1 ≤ ks.length ∧ x.2 ++ tailF (ks.drop x.1) (ns.drop (x.1 + 1)) = encF ks ns) (fun x => ks.length - x.1) _ ?_ (0, bes (ns.getD 0 0).toNat 2) st hst ⟨Nat.zero_le _, ?_⟩
  · rintro ⟨k, acc⟩ ⟨hk, hI⟩
    simp only at hk hI
    have hacc : acc.length ≤ 44000 := by
      have := congrArg List.length hI
      rw [List.length_append] at this; omega
    rcases Nat.lt_or_ge k ks.length with h | h
    · left
      have g0 : (k : Int) < ks.length := by omega
      have g1 := pnat k
      have g2 := pnat (k + 1)
      have w1 : IntKind.i64.wrap ((k : Int) + 1) = ((k + 1 : Nat) : Int) := by rw [wrapI (by omega) (by omega)]; rfl
      have e1 := str_get h
      have e2 := int_get (ns := ns) (i := k + 1) (by omega)
      have hx := hkk _ (mem_getD h)
      have hn := hnn _ (mem_getI (ns := ns) (k := k + 1) (by omega))
      obtain ⟨y1, y2⟩ := kid_bytes hn.1 hn.2
      have p1 := c117 hC.toLibPackB acc (ks.getD k []) (by omega) (by omega)
      have hv := vputS_len10 (v := (ks.getD k []).length) (by omega)
      have hl2 : (acc ++ vputS (ks.getD k []).length ++ ks.getD k []).length + (bes (ns.getD (k + 1) 0).toNat 2).length ≤ 1000000 := by
        simp only [List.length_append, bes_length]; omega
      have a1 := fun ρ M B => app_own (xs := acc ++ vputS (ks.getD k []).length ++ ks.getD k []) (ys := bes (ns.getD (k + 1) 0).toNat 2) (i := 0) (τ := [true]) rfl hl2 ρ M B
      have a2 := fun ρ M B => app_own (xs := acc ++ vputS (ks.getD k []).length ++ ks.getD k []) (ys := bes (ns.getD (k + 1) 0).toNat 2) (i := 1) (τ := [true, true]) rfl hl2 ρ M B
      rw [tail_step h h2] at hI
      refine ⟨(k + 1, acc ++ vputS (ks.getD k []).length ++ ks.getD k [] ++ bes (ns.getD (k + 1) 0).toNat 2), ?_, ⟨by show k + 1 ≤ _; omega, by rw [← hI]; simp only [List.append_assoc]⟩, by show ks.length - (k + 1) < ks.length - k; omega⟩
      have k1 : Nat.beq (k + 1) 0 = false := rfl
      generalize acc ++ vputS (ks.getD k []).length ++ ks.getD k [] ++ bes (ns.getD (k + 1) 0).toNat 2 = acc3 at a1 a2
      generalize acc ++ vputS (ks.getD k []).length ++ ks.getD k [] = acc2 at p1 a1 a2
      generalize ks.getD k [] = x at e1 p1
      rw [bes_2] at a1 a2
      generalize (byteAt (ns.getD (k + 1) 0).toNat 1) = b1 at y1 a1 a2
      generalize (byteAt (ns.getD (k + 1) 0).toNat 0) = b0 at y2 a1 a2
      generalize ns.getD (k + 1) 0 = n at e2 y1 y2
      simp only [List.map_cons, List.map_nil, byteD, List.length_cons, List.length_nil, List.set_cons_zero, List.set_cons_succ, List.cons_append, List.nil_append] at a1 a2
      cases k with
      | zero =>
        have k0 : Nat.beq 0 0 = true := rfl
        simp only [st68, k0, k1, cond_true, cond_false]
        simp only [st68, lp68_0, subC, atC, Tryd.f68, an68, g0, g1, g2, w1, e1, e2, p1, y1, y2, a1, Int.toNat_natCast, T3, T4, T5, T9, T68, T137, T145, T147, EL, e_finWf, e_finWt, e_finMN, e_finMX, retM, meltV, tupV, D.asBox, D.row1, D.freeR, D.freeO, List.replicate_succ, stepD, accs, accP, accW, simpleOp, isAl, isExt, flipD, D.fresh1, D.row, D.plain, D.plain.plainL, St.close, St.close1, St.borrow, retV, resV, resL, outCL, outC, outL, outD, wantedV, opV, An.mid, thawV, St.settle, D.plainU, prune, envOf, get, put, eval, evalT, nz, argsV, capsV, ofV, binV, binV.aggV, unV, intV, eqOp, isConst, natV, optV, loadV, loadC, storeV, setC, St.at_, partV, partTy, indexAddrV, fieldAddrV, sliceV, sliceV.rowSl, sliceV.strSl, bounds, cutP, builtinV, lenV, maxL, maxV, St.elems, roomy, rowOf, rowS, isStr, esz, tdOf, convV, buildV, fillV, partsV, okParts, fillL, D.whole, D.demoteC, D.demote, demoteL, D.global, D.flat, D.leaf, D.cells, TI.agg, TD.rowish, callOpV, moveL, CC, keepB, St.borrowL, St.borrow, D.isLsl, adoptR, adoptC, adoptCL, adoptL, adopt, List.toArray, Array.toList, Nat.reduceEqDiff, Nat.reduceAdd, Nat.reduceSub, Nat.reduceMul, Nat.reduceLeDiff, Nat.reduceLT, reduceIte, reduceCtorEq, forall_const, imp_self, Int.reduceNeg, Int.reduceLT, Int.reduceLE, Int.reduceGT, Int.reduceGE, Int.reduceAdd, Int.reduceSub, Int.reduceMul, Int.reduceToNat, Int.reduceEq, ne_eq, eq_self]
        exact ⟨_, rfl, rfl⟩
      | succ k =>
        have k0 : Nat.beq (k + 1) 0 = false := rfl
        simp only [st68, k0, k1, cond_true, cond_false]
        simp only [st68, lp68_0, subC, atC, Tryd.f68, an68, g0, g1, g2, w1, e1, e2, p1, y1, y2, a2, Int.toNat_natCast, T3, T4, T5, T9, T68, T137, T145, T147, EL, e_finWf, e_finWt, e_finMN, e_finMX, retM, meltV, tupV, D.asBox, D.row1, D.freeR, D.freeO, List.replicate_succ, stepD, accs, accP, accW, simpleOp, isAl, isExt, flipD, D.fresh1, D.row, D.plain, D.plain.plainL, St.close, St.close1, St.borrow, retV, resV, resL, outCL, outC, outL, outD, wantedV, opV, An.mid, thawV, St.settle, D.plainU, prune, envOf, get, put, eval, evalT, nz, argsV, capsV, ofV, binV, binV.aggV, unV, intV, eqOp, isConst, natV, optV, loadV, loadC, storeV, setC, St.at_, partV, partTy, indexAddrV, fieldAddrV, sliceV, sliceV.rowSl, sliceV.strSl, bounds, cutP, builtinV, lenV, maxL, maxV, St.elems, roomy, rowOf, rowS, isStr, esz, tdOf, convV, buildV, fillV, partsV, okParts, fillL, D.whole, D.demoteC, D.demote, demoteL, D.global, D.flat, D.leaf, D.cells, TI.agg, TD.rowish, callOpV, moveL, CC, keepB, St.borrowL, St.borrow, D.isLsl, adoptR, adoptC, adoptCL, adoptL, adopt, List.toArray, Array.toList, Nat.reduceEqDiff, Nat.reduceAdd, Nat.reduceSub, Nat.reduceMul, Nat.reduceLeDiff, Nat.reduceLT, reduceIte, reduceCtorEq, forall_const, imp_self, Int.reduceNeg, Int.reduceLT, Int.reduceLE, Int.reduceGT, Int.reduceGE, Int.reduceAdd, Int.reduceSub, Int.reduceMul, Int.reduceToNat, Int.reduceEq, ne_eq, eq_self]
        exact ⟨_, rfl, rfl⟩
    · right
      obtain rfl : k = ks.length := by omega
      have g0 : ¬ ((ks.length : Nat) : Int) < ks.length := by omega
      have hI2 : acc = encF ks ns := by
        rw [List.drop_length] at hI
        have : tailF [] (ns.drop (ks.length + 1)) = [] := by simp [tailF]
        rw [this, List.append_nil] at hI
        exact hI
      subst hI2
      have k0 : Nat.beq ks.length 0 = false := by
        cases hkl : ks.length with
        | zero => omega
        | succ m => rfl
      simp only [st68, k0, cond_false]
      simp only [st68, lp68_0, subC, atC, Tryd.f68, an68, g0, T3, T4, T5, T9, T68, T137, T145, T147, EL, e_finWf, e_finWt, e_finMN, e_finMX, retM, meltV, tupV, D.asBox, D.row1, D.freeR, D.freeO, List.replicate_succ, stepD, accs, accP, accW, simpleOp, isAl, isExt, flipD, D.fresh1, D.row, D.plain, D.plain.plainL, St.close, St.close1, St.borrow, retV, resV, resL, outCL, outC, outL, outD, wantedV, opV, An.mid, thawV, St.settle, D.plainU, prune, envOf, get, put, eval, evalT, nz, argsV, capsV, ofV, binV, binV.aggV, unV, intV, eqOp, isConst, natV, optV, loadV, loadC, storeV, setC, St.at_, partV, partTy, indexAddrV, fieldAddrV, sliceV, sliceV.rowSl, sliceV.strSl, bounds, cutP, builtinV, lenV, maxL, maxV, appendV, St.elems, roomy, rowOf, rowS, isStr, esz, tdOf, convV, buildV, fillV, partsV, okParts, fillL, D.whole, D.demoteC, D.demote, demoteL, D.global, D.flat, D.leaf, D.cells, TI.agg, TD.rowish, callOpV, moveL, CC, keepB, St.borrowL, St.borrow, D.isLsl, adoptR, adoptC, adoptCL, adoptL, adopt, List.toArray, Array.toList, Nat.reduceEqDiff, Nat.reduceAdd, Nat.reduceSub, Nat.reduceMul, Nat.reduceLeDiff, Nat.reduceLT, reduceIte, reduceCtorEq, forall_const, imp_self, Int.reduceNeg, Int.reduceLT, Int.reduceLE, Int.reduceGT, Int.reduceGE, Int.reduceAdd, Int.reduceSub, Int.reduceMul, Int.reduceToNat, Int.reduceEq, ne_eq, eq_self]
      exact ⟨_, _, rfl, by simp, rfl, _, rfl, rfl⟩
  · cases ns with
    | nil => simp at h2
    | cons n ns => rfl

set_option maxRecDepth 20000 in
set_option maxHeartbeats 2000000 in
theorem run68 (hC : Lib09C C) (ks : List Ky) (ns : List Int) (h1 : ks.length ≤ 1000) (h2 : ns.length ≤ 1000) (hk6 : LongK ks) (B : Hp) : runV T C fi68 [.agg [strR ks .none, intR ns .none]] B = some (.tuple [.vec 1 ((encV ks ns).map byteD) .fresh, .int .i64 (encE ks ns : Nat)], B) := by
  rw [e_run _ _ _ rfl]
  have c1 := c74 hC ks ns h1 h2 hk6
  unfold encV encE
  cases hm : mayF ks ns with
  | false =>
    rw [hm] at c1
    simp only [Bool.false_eq_true, if_false]
    simp only [fi68, Tryd.f68, an68, c1, T3, T4, T5, T9, T68, T137, T145, T147, EL, e_finWf, e_finWt, e_finMN, e_finMX, retM, meltV, tupV, D.asBox, D.row1, D.freeR, D.freeO, List.replicate_succ, stepD, accs, accP, accW, simpleOp, isAl, isExt, flipD, D.fresh1, D.row, D.plain, D.plain.plainL, St.close, St.close1, St.borrow, retV, resV, resL, outCL, outC, outL, outD, wantedV, opV, An.mid, thawV, St.settle, D.plainU, prune, envOf, get, put, eval, evalT, nz, argsV, capsV, ofV, binV, binV.aggV, unV, intV, eqOp, isConst, natV, optV, loadV, loadC, storeV, setC, St.at_, partV, partTy, indexAddrV, fieldAddrV, sliceV, sliceV.rowSl, sliceV.strSl, bounds, cutP, builtinV, lenV, maxL, maxV, appendV, St.elems, roomy, rowOf, rowS, isStr, esz, tdOf, convV, buildV, fillV, partsV, okParts, fillL, D.whole, D.demoteC, D.demote, demoteL, D.global, D.flat, D.leaf, D.cells, TI.agg, TD.rowish, callOpV, moveL, CC, keepB, St.borrowL, St.borrow, D.isLsl, adoptR, adoptC, adoptCL, adoptL, adopt, List.toArray, Array.toList, Nat.reduceEqDiff, Nat.reduceAdd, Nat.reduceSub, Nat.reduceMul, Nat.reduceLeDiff, Nat.reduceLT, reduceIte, reduceCtorEq, forall_const, imp_self, Int.reduceNeg, Int.reduceLT, Int.reduceLE, Int.reduceGT, Int.reduceGE, Int.reduceAdd, Int.reduceSub, Int.reduceMul, Int.reduceToNat, Int.reduceEq, ne_eq, eq_self]
    rfl
  | true =>
    rw [hm] at c1
    obtain ⟨m1, m2, _, _⟩ := may_at hm
    have hn := may_kids hm _ (mem_getI (ns := ns) (k := 0) (by omega))
    have e1 := int_get (ns := ns) (i := 0) (by omega)
    obtain ⟨y1, y2⟩ := kid_bytes hn.1 hn.2
    have lp := loop68 hC B ks ns hm h1
    have hlen := encF_len m2 (fun k hk => (may_keys hm k hk).2)
    have eb : [D.int .u8 (byteAt (ns.getD 0 0).toNat 1).toNat, D.int .u8 (byteAt (ns.getD 0 0).toNat 0).toNat] = (bes (ns.getD 0 0).toNat 2).map byteD := rfl
    have r2 : List.replicate 2 (D.int .u8 0) = [D.int .u8 0, D.int .u8 0] := rfl
    simp only [fi68, Tryd.f68, an68, c1, e1, y1, y2, r2, T3, T4, T5, T9, T68, T137, T145, T147, EL, e_finWf, e_finWt, e_finMN, e_finMX, retM, meltV, tupV, D.asBox, D.row1, D.freeR, D.freeO, List.replicate_succ, stepD, accs, accP, accW, simpleOp, isAl, isExt, flipD, D.fresh1, D.row, D.plain, D.plain.plainL, St.close, St.close1, St.borrow, retV, resV, resL, outCL, outC, outL, outD, wantedV, opV, An.mid, thawV, St.settle, D.plainU, prune, envOf, get, put, eval, evalT, nz, argsV, capsV, ofV, binV, binV.aggV, unV, intV, eqOp, isConst, natV, optV, loadV, loadC, storeV, setC, St.at_, partV, partTy, indexAddrV, fieldAddrV, sliceV, sliceV.rowSl, sliceV.strSl, bounds, cutP, builtinV, lenV, maxL, maxV, appendV, St.elems, roomy, rowOf, rowS, isStr, esz, tdOf, convV, buildV, fillV, partsV, okParts, fillL, D.whole, D.demoteC, D.demote, demoteL, D.global, D.flat, D.leaf, D.cells, TI.agg, TD.rowish, callOpV, moveL, CC, keepB, St.borrowL, St.borrow, D.isLsl, adoptR, adoptC, adoptCL, adoptL, adopt, List.toArray, Array.toList, Nat.reduceEqDiff, Nat.reduceAdd, Nat.reduceSub, Nat.reduceMul, Nat.reduceLeDiff, Nat.reduceLT, reduceIte, reduceCtorEq, forall_const, imp_self, Int.reduceNeg, Int.reduceLT, Int.reduceLE, Int.reduceGT, Int.reduceGE, Int.reduceAdd, Int.reduceSub, Int.reduceMul, Int.reduceToNat, Int.reduceEq, ne_eq, eq_self]
    refine' in_loop (c' := lp68_0) (fin T _ _ _) ?h rfl ?q
    case h =>
      refine lp _ ?_
      simp only [an68, ren_map, toks_map, boxes_map, st68, pz0, An.at_, tidyV, tidyW, tidyB, tidyT, sift, envBoxes, envToks, conToks, D.toks, D.tok1, toksL, D.boxes, D.box1, boxesL, memN, posN, renE, D.ren, D.ren1, renL, renB, St.content, St.boxOk, St.tokOk, trues, T3, T4, T5, T9, T68, T137, T145, T147, EL, e_finWf, e_finWt, e_finMN, e_finMX, retM, meltV, tupV, D.asBox, D.row1, D.freeR, D.freeO, List.replicate_succ, stepD, accs, accP, accW, simpleOp, isAl, isExt, flipD, D.fresh1, D.row, D.plain, D.plain.plainL, St.close, St.close1, St.borrow, retV, resV, resL, outCL, outC, outL, outD, wantedV, opV, An.mid, thawV, St.settle, D.plainU, prune, envOf, get, put, eval, evalT, nz, argsV, capsV, ofV, binV, binV.aggV, unV, intV, eqOp, isConst, natV, optV, loadV, loadC, storeV, setC, St.at_, partV, partTy, indexAddrV, fieldAddrV, sliceV, sliceV.rowSl, sliceV.strSl, bounds, cutP, builtinV, lenV, maxL, maxV, appendV, St.elems, roomy, rowOf, rowS, isStr, esz, tdOf, convV, buildV, fillV, partsV, okParts, fillL, D.whole, D.demoteC, D.demote, demoteL, D.global, D.flat, D.leaf, D.cells, TI.agg, TD.rowish, callOpV, moveL, CC, keepB, St.borrowL, St.borrow, D.isLsl, adoptR, adoptC, adoptCL, adoptL, adopt, List.toArray, Array.toList, Nat.reduceEqDiff, Nat.reduceAdd, Nat.reduceSub, Nat.reduceMul, Nat.reduceLeDiff, Nat.reduceLT, reduceIte, reduceCtorEq, forall_const, imp_self, Int.reduceNeg, Int.reduceLT, Int.reduceLE, Int.reduceGT, Int.reduceGE, Int.reduceAdd, Int.reduceSub, Int.reduceMul, Int.reduceToNat, Int.reduceEq, ne_eq, eq_self]
      all_goals rfl
    rintro x st' ⟨rfl, ρ, rfl, r4⟩
    by_cases hs : sizeF ks ≤ 504
    · have g1 : ¬ (sizeF ks : Int) > 504 := by omega
      simp only [hs, if_true]
      simp only [r4, hlen, g1, T3, T4, T5, T9, T68, T137, T145, T147, EL, e_finWf, e_finWt, e_finMN, e_finMX, retM, meltV, tupV, D.asBox, D.row1, D.freeR, D.freeO, List.replicate_succ, stepD, accs, accP, accW, simpleOp, isAl, isExt, flipD, D.fresh1, D.row, D.plain, D.plain.plainL, St.close, St.close1, St.borrow, retV, resV, resL, outCL, outC, outL, outD, wantedV, opV, An.mid, thawV, St.settle, D.plainU, prune, envOf, get, put, eval, evalT, nz, argsV, capsV, ofV, binV, binV.aggV, unV, intV, eqOp, isConst, natV, optV, loadV, loadC, storeV, setC, St.at_, partV, partTy, indexAddrV, fieldAddrV, sliceV, sliceV.rowSl, sliceV.strSl, bounds, cutP, builtinV, lenV, maxL, maxV, appendV, St.elems, roomy, rowOf, rowS, isStr, esz, tdOf, convV, buildV, fillV, partsV, okParts, fillL, D.whole, D.demoteC, D.demote, demoteL, D.global, D.flat, D.leaf, D.cells, TI.agg, TD.rowish, callOpV, moveL, CC, keepB, St.borrowL, St.borrow, D.isLsl, adoptR, adoptC, adoptCL, adoptL, adopt, List.toArray, Array.toList, Nat.reduceEqDiff, Nat.reduceAdd, Nat.reduceSub, Nat.reduceMul, Nat.reduceLeDiff, Nat.reduceLT, reduceIte, reduceCtorEq, forall_const, imp_self, Int.reduceNeg, Int.reduceLT, Int.reduceLE, Int.reduceGT, Int.reduceGE, Int.reduceAdd, Int.reduceSub, Int.reduceMul, Int.reduceToNat, Int.reduceEq, ne_eq, eq_self]
      rfl
    · have g1 : (sizeF ks : Int) > 504 := by omega
      simp only [hs, if_true, if_false]
      simp only [r4, hlen, g1, T3, T4, T5, T9, T68, T137, T145, T147, EL, e_finWf, e_finWt, e_finMN, e_finMX, retM, meltV, tupV, D.asBox, D.row1, D.freeR, D.freeO, List.replicate_succ, stepD, accs, accP, accW, simpleOp, isAl, isExt, flipD, D.fresh1, D.row, D.plain, D.plain.plainL, St.close, St.close1, St.borrow, retV, resV, resL, outCL, outC, outL, outD, wantedV, opV, An.mid, thawV, St.settle, D.plainU, prune, envOf, get, put, eval, evalT, nz, argsV, capsV, ofV, binV, binV.aggV, unV, intV, eqOp, isConst, natV, optV, loadV, loadC, storeV, setC, St.at_, partV, partTy, indexAddrV, fieldAddrV, sliceV, sliceV.rowSl, sliceV.strSl, bounds, cutP, builtinV, lenV, maxL, maxV, appendV, St.elems, roomy, rowOf, rowS, isStr, esz, tdOf, convV, buildV, fillV, partsV, okParts, fillL, D.whole, D.demoteC, D.demote, demoteL, D.global, D.flat, D.leaf, D.cells, TI.agg, TD.rowish, callOpV, moveL, CC, keepB, St.borrowL, St.borrow, D.isLsl, adoptR, adoptC, adoptCL, adoptL, adopt, List.toArray, Array.toList, Nat.reduceEqDiff, Nat.reduceAdd, Nat.reduceSub, Nat.reduceMul, Nat.reduceLeDiff, Nat.reduceLT, reduceIte, reduceCtorEq, forall_const, imp_self, Int.reduceNeg, Int.reduceLT, Int.reduceLE, Int.reduceGT, Int.reduceGE, Int.reduceAdd, Int.reduceSub, Int.reduceMul, Int.reduceToNat, Int.reduceEq, ne_eq, eq_self]
      rfl
theorem c68 (hC : Lib09C C) (ks : List Ky) (ns : List Int) (h1 : ks.length ≤ 1000) (h2 : ns.length ≤ 1000) (hk6 : LongK ks) (B : Hp) : C 68 [.agg [.vec 1 (ks.map D.str) .none, .vec 1 (ns.map iD) .none]] B = some (.tuple [.vec 1 ((encV ks ns).map byteD) .fresh, .int .i64 (encE ks ns : Nat)], B) := hC.f68 _ _ _ (run68 hC ks ns h1 h2 hk6 B)

end Go.Proofs.YtnhelkclkdfndaaDoor.V
