/-
Layer 18: PinsHold: the long way.
-/
import Derived.Test.YtnhelkclkdfndaaDoorRM
namespace Go.Proofs.YtnhelkclkdfndaaDoor.V
open Go Go.RowKit
set_option linter.unusedSimpArgs false
set_option linter.unusedVariables false

variable {C : Callees}

theorem may_up {n : Nat} {l : List Pn} (h : mayP n l = true) (h2 : n < 4611686018427387904) : mayP (n + 1) l = true := by
  obtain ⟨_, h8, _, _⟩ := may_sort h
  have h3 : allB l.length (atP n l) = true := by
    unfold mayP at h
    simp only [Bool.and_eq_true] at h
    exact h.2
  rw [allB_iff] at h3
  unfold mayP
  rw [decide_eq_true (show n + 1 ≤ 4611686018427387904 by omega), decide_eq_true h8, Bool.true_and, Bool.true_and, allB_iff]
  intro i hi
  have := h3 i hi
  unfold atP at this ⊢
  simp only [Bool.and_eq_true, decide_eq_true_eq] at this ⊢
  exact ⟨this.1, by omega⟩

set_option maxRecDepth 20000 in
set_option maxHeartbeats 4000000 in
theorem run4_yes (hC : Known18 C) (n : Nat) (l : List Pn) (he : opE n l = 0) (sq : Nat) (s : Nat → Nat) (hs : Wds s) (hw : WdL l) : runV T C fi4 [psD n l, .int .u64 (sq : Nat), .agg (nums .u64 16 s)] [] = some (.bool true, []) := by
  rw [e_run _ _ _ rfl]
  have hL := hC.toLib18F
  have c0 := c14 hC
  have hm : mayP n l = true := by
    unfold opE at he
    by_cases hx : mayP n l = true
    · exact hx
    · rw [if_neg hx] at he; cases he
  obtain ⟨_, h8, hn, _⟩ := may_sort hm
  have h7 : l.length < 8 ∧ n < 4611686018427387904 := by
    unfold opE at he
    rw [hm, if_pos rfl] at he
    by_cases hx : l.length = 8 ∨ n = 4611686018427387904
    · rw [if_pos hx] at he; cases he
    · omega
  have c1 := c15 hL n l (by omega) []
  have g1 : ¬ (l.length : Int) > 20 := by omega
  have c2 := c28 hL.toLib18A n l (by omega) []
  rw [hm, if_pos rfl, errD_zero] at c2
  have c3 : C 16 [.agg [.int .u64 (n : Nat), .vec 18 (l.map pnD) .none], .int .u64 (sq : Nat), .agg (nums .u64 16 s)] [] = some (.tuple [.agg [.int .u64 (n + 1 : Nat), .vec 18 ((l ++ [(⟨n + 1, sq, s⟩ : Pn)]).map pnD) .fresh], .int .u64 (n + 1 : Nat), .nili], []) := hL.f16 _ _ _ (run16_ok hL.toLib18D n l sq s he [])
  have hm2 := may_app hm h7.1 h7.2 sq s
  have hm3 := may_up hm h7.2
  have hi := is_app (n := n) (l := l) sq s
  have c4 := hC.clo_hit (n + 1) (l ++ [(⟨n + 1, sq, s⟩ : Pn)]) (n + 1) l.length hm2 hi
  rw [cut_app] at c4
  have c5 := hL.f20 _ _ _ (run20_hit hL.toLib18B (n + 1) (l ++ [(⟨n + 1, sq, s⟩ : Pn)]) hm2 hi [])
  rw [app_at] at c5
  obtain ⟨j, hj, hmin, c6⟩ := run26_yes hL.toLib18E (n + 1) (l ++ [(⟨n + 1, sq, s⟩ : Pn)]) hm2 (by simp) []
  have c6 := hL.f26 _ _ _ c6
  have hw2 : WdL (l ++ [(⟨n + 1, sq, s⟩ : Pn)]) := fun p hp => by
    rcases List.mem_append.1 hp with hp | hp
    · exact hw p hp
    · rw [List.mem_singleton] at hp; subst hp; exact hs
  have d1 := hL.f27 _ _ _ (run27 hL.toLib18E (n + 1) (l ++ [(⟨n + 1, sq, s⟩ : Pn)]) (by simp; omega) hw2 [])
  have d2 := hL.f27 _ _ _ (run27 hL.toLib18E n l (by omega) hw [])
  have d3 := hL.f27 _ _ _ (run27 hL.toLib18E (n + 1) l (by omega) hw [])
  have d4 := c25 hL.toLib17 (heldP_w (n := n) hw) hs []
  have q1 := eqS18 (s := heldP (n + 1) (l ++ [(⟨n + 1, sq, s⟩ : Pn)])) (t := eithS (heldP n l) s) (fun i _ => by
    unfold heldP
    rw [hm2, hm, if_pos rfl, if_pos rfl, show (l ++ [(⟨n + 1, sq, s⟩ : Pn)]).length = l.length + 1 by simp, heldK, held_app _ (Nat.le_refl _), app_at])
  have q2 := eqS18 (s := heldP (n + 1) l) (t := heldP n l) (fun i _ => by
    unfold heldP
    rw [hm3, hm, if_pos rfl])
  have q3 := eqS18 (s := s) (t := s) (fun _ _ => rfl)
  have ho : sqP (l ++ [(⟨n + 1, sq, s⟩ : Pn)]) j ≤ sq := by
    have := hmin l.length (by simp)
    unfold sqP at this ⊢
    rw [app_at] at this
    exact this
  have lp := loop4 C n l (l ++ [(⟨n + 1, sq, s⟩ : Pn)]) sq s (sqP (l ++ [(⟨n + 1, sq, s⟩ : Pn)]) j) (by simp; omega) hmin
  have w1 : IntKind.u64.wrap ((n : Int) + 1) = ((n + 1 : Nat) : Int) := by rw [wrap_u64 (by omega) (by omega)]; rfl
  generalize sqP (l ++ [(⟨n + 1, sq, s⟩ : Pn)]) j = old at c6 ho lp
  have x1 : (old : Int) ≤ sq := by omega
  generalize heldP (n + 1) (l ++ [(⟨n + 1, sq, s⟩ : Pn)]) = u1 at d1 q1
  generalize heldP (n + 1) l = u3 at d3 q2
  generalize eithS (heldP n l) s = u4 at d4 q1
  generalize heldP n l = u2 at d2 d4 q2
  unfold pnD at c5
  simp only at c5
  generalize l ++ [(⟨n + 1, sq, s⟩ : Pn)] = l2 at c3 c4 c5 c6 d1 lp
  simp only [fi4, Tryd.f4, an4, c0, c1, c2, c3, c4, c5, c6, g1, sC_nil, sC_zero, sC_succ, sC_16, AL, T3, T22, T23, T25, T26, T28, T30, T33, T42, T44, T48, EL, e_finWf, e_finWt, e_finMN, e_finMX, retM, meltV, tupV, D.asBox, D.row1, D.freeR, D.freeO, List.replicate_succ, stepD, accs, accP, accW, simpleOp, isAl, isExt, flipD, D.fresh1, D.row, D.plain, D.plain.plainL, St.close, St.close1, St.borrow, retV, resV, resL, outCL, outC, outL, outD, wantedV, opV, An.mid, thawV, St.settle, D.plainU, prune, envOf, get, put, eval, evalT, nz, argsV, capsV, ofV, binV, binV.aggV, unV, intV, eqOp, isConst, natV, optV, loadV, loadC, storeV, St.at_, partV, partTy, indexAddrV, fieldAddrV, sliceV, sliceV.rowSl, sliceV.strSl, bounds, cutP, builtinV, lenV, maxL, maxV, appendV, St.elems, roomy, rowOf, rowS, isStr, esz, tdOf, convV, buildV, fillV, partsV, okParts, fillL, D.whole, D.demoteC, D.demote, demoteL, D.global, D.flat, D.leaf, D.cells, TI.agg, TD.rowish, callOpV, moveL, CC, keepB, St.borrowL, St.borrow, D.isLsl, adoptR, adoptC, adoptCL, adoptL, adopt, List.toArray, Array.toList, Nat.reduceEqDiff, Nat.reduceAdd, Nat.reduceSub, Nat.reduceMul, Nat.reduceLeDiff, Nat.reduceLT, reduceIte, reduceCtorEq, forall_const, imp_self, Int.reduceNeg, Int.reduceLT, Int.reduceLE, Int.reduceGT, Int.reduceGE, Int.reduceAdd, Int.reduceSub, Int.reduceMul, Int.reduceToNat, Int.reduceEq, ne_eq, eq_self]
  refine' in_loop (c' := lp4_0) (fin T _ _ _) ?h rfl ?q
  case h =>
    refine lp _ ?_
    simp only [an4, ren_map, toks_map, boxes_map, st4, pz0, AL, An.at_, tidyV, tidyW, tidyB, tidyT, sift, envBoxes, envToks, conToks, D.toks, D.tok1, toksL, D.boxes, D.box1, boxesL, memN, posN, renE, D.ren, D.ren1, renL, renB, St.content, St.boxOk, St.tokOk, trues, T3, T22, T23, T25, T26, T28, T30, T33, T42, T44, T48, EL, e_finWf, e_finWt, e_finMN, e_finMX, retM, meltV, tupV, D.asBox, D.row1, D.freeR, D.freeO, List.replicate_succ, stepD, accs, accP, accW, simpleOp, isAl, isExt, flipD, D.fresh1, D.row, D.plain, D.plain.plainL, St.close, St.close1, St.borrow, retV, resV, resL, outCL, outC, outL, outD, wantedV, opV, An.mid, thawV, St.settle, D.plainU, prune, envOf, get, put, eval, evalT, nz, argsV, capsV, ofV, binV, binV.aggV, unV, intV, eqOp, isConst, natV, optV, loadV, loadC, storeV, setC, St.at_, partV, partTy, indexAddrV, fieldAddrV, sliceV, sliceV.rowSl, sliceV.strSl, bounds, cutP, builtinV, lenV, maxL, maxV, appendV, St.elems, roomy, rowOf, rowS, isStr, esz, tdOf, convV, buildV, fillV, partsV, okParts, fillL, D.whole, D.demoteC, D.demote, demoteL, D.global, D.flat, D.leaf, D.cells, TI.agg, TD.rowish, callOpV, moveL, CC, keepB, St.borrowL, St.borrow, D.isLsl, adoptR, adoptC, adoptCL, adoptL, adopt, List.toArray, Array.toList, Nat.reduceEqDiff, Nat.reduceAdd, Nat.reduceSub, Nat.reduceMul, Nat.reduceLeDiff, Nat.reduceLT, reduceIte, reduceCtorEq, forall_const, imp_self, Int.reduceNeg, Int.reduceLT, Int.reduceLE, Int.reduceGT, Int.reduceGE, Int.reduceAdd, Int.reduceSub, Int.reduceMul, Int.reduceToNat, Int.reduceEq, ne_eq, eq_self]
    all_goals rfl
  rintro x st' ⟨rfl, ρ, rfl, r1, r5, r7, r8, r11, r12, r13, r14, r15, r16⟩
  simp only [st4, r1, r5, r7, r8, r11, r12, r13, r14, r15, r16, c0, d1, d2, d3, d4, q1, q2, q3, w1, x1, sC_nil, sC_zero, sC_succ, AL, T3, T22, T23, T25, T26, T28, T30, T33, T42, T44, T48, EL, e_finWf, e_finWt, e_finMN, e_finMX, retM, meltV, tupV, D.asBox, D.row1, D.freeR, D.freeO, List.replicate_succ, stepD, accs, accP, accW, simpleOp, isAl, isExt, flipD, D.fresh1, D.row, D.plain, D.plain.plainL, St.close, St.close1, St.borrow, retV, resV, resL, outCL, outC, outL, outD, wantedV, opV, An.mid, thawV, St.settle, D.plainU, prune, envOf, get, put, eval, evalT, nz, argsV, capsV, ofV, binV, binV.aggV, unV, intV, eqOp, isConst, natV, optV, loadV, loadC, storeV, St.at_, partV, partTy, indexAddrV, fieldAddrV, sliceV, sliceV.rowSl, sliceV.strSl, bounds, cutP, builtinV, lenV, maxL, maxV, appendV, St.elems, roomy, rowOf, rowS, isStr, esz, tdOf, convV, buildV, fillV, partsV, okParts, fillL, D.whole, D.demoteC, D.demote, demoteL, D.global, D.flat, D.leaf, D.cells, TI.agg, TD.rowish, callOpV, moveL, CC, keepB, St.borrowL, St.borrow, D.isLsl, adoptR, adoptC, adoptCL, adoptL, adopt, List.toArray, Array.toList, Nat.reduceEqDiff, Nat.reduceAdd, Nat.reduceSub, Nat.reduceMul, Nat.reduceLeDiff, Nat.reduceLT, reduceIte, reduceCtorEq, forall_const, imp_self, Int.reduceNeg, Int.reduceLT, Int.reduceLE, Int.reduceGT, Int.reduceGE, Int.reduceAdd, Int.reduceSub, Int.reduceMul, Int.reduceToNat, Int.reduceEq, ne_eq, eq_self]
  done

theorem run4 (hC : Known18 C) (n : Nat) (l : List Pn) (hl : l.length * 144 ≤ 140737488351232) (hw : WdL l) (sq : Nat) (s : Nat → Nat) (hs : Wds s) : runV T C fi4 [psD n l, .int .u64 (sq : Nat), .agg (nums .u64 16 s)] [] = some (.bool true, []) := by
  by_cases h : l.length ≤ 20 ∧ opE n l = 0
  · exact run4_yes hC n l h.2 sq s hs hw
  · exact run4_no hC n l hl sq s h

end Go.Proofs.YtnhelkclkdfndaaDoor.V
