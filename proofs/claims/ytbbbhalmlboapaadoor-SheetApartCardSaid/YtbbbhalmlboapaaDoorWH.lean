/-
Layer 5: SheetForms.
-/
import Derived.Test.YtbbbhalmlboapaaDoorWG
namespace Go.Proofs.YtbbbhalmlboapaaDoor.V
open Go Go.RowKit
set_option linter.unusedSimpArgs false
set_option linter.unusedVariables false

/-! warren/warrenlaw05.SheetForms -/
def an11 : An := ⟨fun | 9 => some [1, 7, 8, 9, 10, 11, 12, 13, 14, 15, 16, 17, 18] | _ => .none, fun _ => 0, fun _ => false, fun | 7 => some (9998, [1, 7, 8, 9, 10, 11, 12, 13, 14, 15, 16]) | _ => .none⟩
noncomputable def fi11 : FI := ⟨3, 131, Tryd.f11.body.getD .skip, Tryd.f11.results.toList, an11, false, false, false⟩
theorem ok11 : FnOk Tryd.prog 11 fi11 := ⟨⟨Tryd.f11, Tryd.func11, by kernel_rfl, rfl, rfl, rfl⟩, by decide, by kernel_rfl, fun h => by cases h⟩
noncomputable def lp11_0 : Code := subC [1, 1, 1, 1, 1, 1, 1, 0, 1, 0, 0] (Tryd.f11.body.getD .skip)   -- head 9 keep [1, 7, 8, 9, 10, 11, 12, 13, 14, 15, 16, 17, 18]

variable {C : Callees}

theorem str_eq (a : List UInt8) : strV .eql a a = some (.bool true) := by simp [strV]
theorem str_ne (a : List UInt8) : strV .neq a a = some (.bool false) := by simp [strV]

abbrev lfR (l P L : List UInt8) (e n : Nat) (K : Nat) : List (Nat × D) := [(7, .vec 1 (P.map byteD) .none), (8, errD e), (9, .vec 1 (P.map byteD) .none), (10, .int .i64 e), (11, .int .u8 K), (12, .vec 1 (L.map byteD) .none), (13, errD n), (14, .int .u8 K), (15, .vec 1 (L.map byteD) .none), (16, .int .i64 n)]
def st11 (l P L : List UInt8) (e n : Nat) (K : Nat) (i : Nat) : St := ⟨(1, byV l .none) :: (lfR l P L e n K ++ [(17, .bool (blankS (l.take i))), (18, .int .i64 i)]), [], [], []⟩

set_option maxRecDepth 10000 in
set_option maxHeartbeats 2000000 in
theorem loop11 (C : Callees) (l P L : List UInt8) (e n : Nat) (K : Nat) (hl : l.length ≤ 2000) (st : St) (hst : an11.at_ (some 9) st = st11 l P L e n K 0) :
    ∃ x st', loopC T an11 C lp11_0 st = some (x, st') ∧ x = .exit 0 ∧ ∃ ρ, st' = ⟨ρ, [], [], []⟩ ∧ get ρ 1 = byV l .none ∧ get ρ 7 = .vec 1 (P.map byteD) .none ∧ get ρ 8 = errD e ∧ get ρ 9 = .vec 1 (P.map byteD) .none ∧ get ρ 10 = .int .i64 e ∧ get ρ 11 = .int .u8 K ∧ get ρ 12 = .vec 1 (L.map byteD) .none ∧ get ρ 13 = errD n ∧ get ρ 14 = .int .u8 K ∧ get ρ 15 = .vec 1 (L.map byteD) .none ∧ get ρ 16 = .int .i64 n ∧ get ρ 17 = .bool (blankS l) := by
  refine loop_rule (st11 l P L e n K) (fun i => i ≤ l.length) (fun i => l.length - i) _ ?_ 0 st hst (Nat.zero_le _)
  intro i hi
  rcases Nat.lt_or_ge i l.length with h | h
  · left
    refine ⟨i + 1, ?_, by omega, by omega⟩
    have hc := List.getElem?_eq_getElem h
    generalize l[i] = c at hc
    have g0 : (i : Int) < l.length := by omega
    have n1 := nat0 i
    have g1 : (l.map byteD)[i]? = some (.int .u8 c.toNat) := by rw [List.getElem?_map, hc]; rfl
    have w1 : IntKind.i64.wrap ((i : Int) + 1) = ((i + 1 : Nat) : Int) := by rw [wrapI (by omega) (by omega)]; rfl
    have z1 := u8_zero c
    have eb : blankS (l.take (i + 1)) = (blankS (l.take i) && (c == 0)) := by
      unfold blankS
      rw [List.take_add_one, hc, List.all_append]; simp
    rcases errD_cases e with ⟨_, h8⟩ | ⟨_, h8⟩ <;> rcases errD_cases n with ⟨_, h13⟩ | ⟨_, h13⟩ <;>
    cases e1 : blankS (l.take i) <;> rw [e1] at eb <;> cases e2 : c == 0 <;> rw [e2] at eb z1 <;>
    (simp only [Bool.and_self, Bool.and_true, Bool.and_false, Bool.false_and, Bool.true_and] at eb
     simp only [st11, lp11_0, subC, atC, Tryd.f11, an11, lfR, h8, h13, e1, g0, n1, g1, w1, z1, eb, Int.toNat_natCast, List.cons_append, List.nil_append, T3, T4, T5, T9, T24, T33, EL, e_finWf, e_finWt, e_finMN, e_finMX, retM, meltV, tupV, D.asBox, D.row1, D.freeR, D.freeO, List.replicate_succ, stepD, accs, accP, accW, simpleOp, isAl, isExt, flipD, D.fresh1, D.row, D.plain, D.plain.plainL, St.close, St.close1, St.borrow, retV, resV, resL, outCL, outC, outL, outD, wantedV, opV, An.mid, thawV, St.settle, D.plainU, prune, envOf, get, put, eval, evalT, nz, argsV, capsV, ofV, binV, binV.aggV, unV, intV, eqOp, isConst, natV, optV, loadV, loadC, storeV, setC, St.at_, partV, partTy, indexAddrV, fieldAddrV, sliceV, sliceV.rowSl, sliceV.strSl, bounds, cutP, builtinV, lenV, maxL, maxV, appendV, St.elems, roomy, rowOf, rowS, isStr, esz, tdOf, convV, buildV, fillV, partsV, okParts, fillL, D.whole, D.demoteC, D.demote, demoteL, D.global, D.flat, D.leaf, D.cells, TI.agg, TD.rowish, callOpV, moveL, CC, keepB, St.borrowL, St.borrow, D.isLsl, adoptR, adoptC, adoptCL, adoptL, adopt, List.toArray, Array.toList, Nat.reduceEqDiff, Nat.reduceAdd, Nat.reduceSub, Nat.reduceMul, Nat.reduceLeDiff, Nat.reduceLT, reduceIte, reduceCtorEq, forall_const, imp_self, Int.reduceNeg, Int.reduceLT, Int.reduceLE, Int.reduceGT, Int.reduceGE, Int.reduceAdd, Int.reduceSub, Int.reduceMul, Int.reduceToNat, Int.reduceEq, ne_eq, eq_self]
     exact ⟨_, rfl, rfl⟩)
  · right
    obtain rfl : i = l.length := by omega
    have g0 : ¬ ((l.length : Nat) : Int) < l.length := by omega
    have e1 : l.take l.length = l := List.take_length
    simp only [st11, lp11_0, subC, atC, Tryd.f11, an11, lfR, g0, e1, List.cons_append, List.nil_append, T3, T4, T5, T9, T24, T33, EL, e_finWf, e_finWt, e_finMN, e_finMX, retM, meltV, tupV, D.asBox, D.row1, D.freeR, D.freeO, List.replicate_succ, stepD, accs, accP, accW, simpleOp, isAl, isExt, flipD, D.fresh1, D.row, D.plain, D.plain.plainL, St.close, St.close1, St.borrow, retV, resV, resL, outCL, outC, outL, outD, wantedV, opV, An.mid, thawV, St.settle, D.plainU, prune, envOf, get, put, eval, evalT, nz, argsV, capsV, ofV, binV, binV.aggV, unV, intV, eqOp, isConst, natV, optV, loadV, loadC, storeV, setC, St.at_, partV, partTy, indexAddrV, fieldAddrV, sliceV, sliceV.rowSl, sliceV.strSl, bounds, cutP, builtinV, lenV, maxL, maxV, appendV, St.elems, roomy, rowOf, rowS, isStr, esz, tdOf, convV, buildV, fillV, partsV, okParts, fillL, D.whole, D.demoteC, D.demote, demoteL, D.global, D.flat, D.leaf, D.cells, TI.agg, TD.rowish, callOpV, moveL, CC, keepB, St.borrowL, St.borrow, D.isLsl, adoptR, adoptC, adoptCL, adoptL, adopt, List.toArray, Array.toList, Nat.reduceEqDiff, Nat.reduceAdd, Nat.reduceSub, Nat.reduceMul, Nat.reduceLeDiff, Nat.reduceLT, reduceIte, reduceCtorEq, forall_const, imp_self, Int.reduceNeg, Int.reduceLT, Int.reduceLE, Int.reduceGT, Int.reduceGE, Int.reduceAdd, Int.reduceSub, Int.reduceMul, Int.reduceToNat, Int.reduceEq, ne_eq, eq_self]
    exact ⟨_, _, rfl, by simp, rfl, _, rfl, rfl, rfl, rfl, rfl, rfl, rfl, rfl, rfl, rfl, rfl, rfl, rfl⟩

set_option maxRecDepth 20000 in
set_option maxHeartbeats 8000000 in
theorem run11_any (hC : Known05 C) (k : UInt8) (l b P L : List UInt8) (e n : Nat) (K : Nat) (p q : Perm) (hp : p = .box ∧ e = 0 ∨ p = .fresh ∧ e ≠ 0) (hq : q = .none ∧ n = 0 ∨ q = .fresh ∧ n ≠ 0)
    (hl : l.length ≤ 2000) (hb : b.length ≤ 2000)
    (hSE : C 54 [.int .u8 k.toNat, .vec 1 (l.map byteD) .none] [] = some (.tuple [.vec 1 (P.map byteD) p, errD e], []))
    (hRSE : C 55 [.int .u8 k.toNat, .vec 1 (l.map byteD) .none] [] = some (.tuple [.vec 1 (P.map byteD) .fresh, .int .i64 e], []))
    (hOP : C 56 [.vec 1 (b.map byteD) .none] [] = some (.tuple [.int .u8 K, .vec 1 (L.map byteD) .fresh, errD n], []))
    (hROP : C 57 [.vec 1 (b.map byteD) .none] [] = some (.tuple [.int .u8 K, .vec 1 (L.map byteD) q, .int .i64 n], [])) :
    runV T C fi11 [.int .u8 k.toNat, byV l .none, byV b .none] [] = some (.bool true, []) := by
  rw [e_run _ _ _ rfl]
  have hL := hC.toLib05
  have h1 : ¬ (l.length : Int) > 2000 := by omega
  have h2 : ¬ (b.length : Int) > 2000 := by omega
  have c5 := c53 hC
  have c6 := c60 hL l (by omega) []
  have q8 := hC.num e []
  have q13 := hC.num n []
  have sP := str_eq P
  have sL := str_eq L
  have sN := str_eq []
  have b1 : binV T .eql false 4 (.bool (blankS l)) (.bool (blankS l)) = some (.bool true) := by cases blankS l <;> rfl
  have h8 : e = 0 ∧ errD e = .nili ∨ e ≠ 0 ∧ errD e = .iface 102 (.int .i64 e) := errD_cases e
  have h13 : n = 0 ∧ errD n = .nili ∨ n ≠ 0 ∧ errD n = .iface 102 (.int .i64 n) := errD_cases n
  rcases hp with ⟨rfl, he⟩ | ⟨rfl, he⟩ <;> rcases hq with ⟨rfl, hn⟩ | ⟨rfl, hn⟩
  all_goals
    first
    | have h8 := (h8.resolve_right fun h => h.1 he).2
    | have h8 := (h8.resolve_left fun h => he h.1).2
    first
    | have h13 := (h13.resolve_right fun h => h.1 hn).2
    | have h13 := (h13.resolve_left fun h => hn h.1).2
    rw [h8] at hSE q8
    rw [h13] at hOP q13
    simp only [fi11, Tryd.f11, an11, h1, h2, hSE, hRSE, hOP, hROP, T3, T4, T5, T9, T24, T33, EL, e_finWf, e_finWt, e_finMN, e_finMX, retM, meltV, tupV, D.asBox, D.row1, D.freeR, D.freeO, List.replicate_succ, stepD, accs, accP, accW, simpleOp, isAl, isExt, flipD, D.fresh1, D.row, D.plain, D.plain.plainL, St.close, St.close1, St.borrow, retV, resV, resL, outCL, outC, outL, outD, wantedV, opV, An.mid, thawV, St.settle, D.plainU, prune, envOf, get, put, eval, evalT, nz, argsV, capsV, ofV, binV, binV.aggV, unV, intV, eqOp, isConst, natV, optV, loadV, loadC, storeV, setC, St.at_, partV, partTy, indexAddrV, fieldAddrV, sliceV, sliceV.rowSl, sliceV.strSl, bounds, cutP, builtinV, lenV, maxL, maxV, appendV, St.elems, roomy, rowOf, rowS, isStr, esz, tdOf, convV, buildV, fillV, partsV, okParts, fillL, D.whole, D.demoteC, D.demote, demoteL, D.global, D.flat, D.leaf, D.cells, TI.agg, TD.rowish, callOpV, moveL, CC, keepB, St.borrowL, St.borrow, D.isLsl, adoptR, adoptC, adoptCL, adoptL, adopt, List.toArray, Array.toList, Nat.reduceEqDiff, Nat.reduceAdd, Nat.reduceSub, Nat.reduceMul, Nat.reduceLeDiff, Nat.reduceLT, reduceIte, reduceCtorEq, forall_const, imp_self, Int.reduceNeg, Int.reduceLT, Int.reduceLE, Int.reduceGT, Int.reduceGE, Int.reduceAdd, Int.reduceSub, Int.reduceMul, Int.reduceToNat, Int.reduceEq, ne_eq, eq_self]
    refine' in_loop (c' := lp11_0) (fin T _ _ _) (loop11 C l P L e n K hl _ ?_) rfl ?_
    · simp only [an11, ren_map, toks_map, boxes_map, st11, lfR, h8, h13, List.take_zero, List.cons_append, List.nil_append, An.at_, tidyV, tidyW, tidyB, tidyT, sift, envBoxes, envToks, conToks, D.toks, D.tok1, toksL, D.boxes, D.box1, boxesL, memN, posN, renE, D.ren, D.ren1, renL, renB, St.content, St.boxOk, St.tokOk, trues, T3, T4, T5, T9, T24, T33, EL, e_finWf, e_finWt, e_finMN, e_finMX, retM, meltV, tupV, D.asBox, D.row1, D.freeR, D.freeO, List.replicate_succ, stepD, accs, accP, accW, simpleOp, isAl, isExt, flipD, D.fresh1, D.row, D.plain, D.plain.plainL, St.close, St.close1, St.borrow, retV, resV, resL, outCL, outC, outL, outD, wantedV, opV, An.mid, thawV, St.settle, D.plainU, prune, envOf, get, put, eval, evalT, nz, argsV, capsV, ofV, binV, binV.aggV, unV, intV, eqOp, isConst, natV, optV, loadV, loadC, storeV, setC, St.at_, partV, partTy, indexAddrV, fieldAddrV, sliceV, sliceV.rowSl, sliceV.strSl, bounds, cutP, builtinV, lenV, maxL, maxV, appendV, St.elems, roomy, rowOf, rowS, isStr, esz, tdOf, convV, buildV, fillV, partsV, okParts, fillL, D.whole, D.demoteC, D.demote, demoteL, D.global, D.flat, D.leaf, D.cells, TI.agg, TD.rowish, callOpV, moveL, CC, keepB, St.borrowL, St.borrow, D.isLsl, adoptR, adoptC, adoptCL, adoptL, adopt, List.toArray, Array.toList, Nat.reduceEqDiff, Nat.reduceAdd, Nat.reduceSub, Nat.reduceMul, Nat.reduceLeDiff, Nat.reduceLT, reduceIte, reduceCtorEq, forall_const, imp_self, Int.reduceNeg, Int.reduceLT, Int.reduceLE, Int.reduceGT, Int.reduceGE, Int.reduceAdd, Int.reduceSub, Int.reduceMul, Int.reduceToNat, Int.reduceEq, ne_eq, eq_self]
      all_goals rfl
    · rintro x st' ⟨rfl, ρ, rfl, r1, r7, r8, r9, r10, r11, r12, r13, r14, r15, r16, r17⟩
      rw [h8] at r8
      rw [h13] at r13
      first
      | rw [he] at q8 r10
      | skip
      first
      | rw [hn] at q13 r16
      | skip
      rcases Nat.lt_or_ge 504 l.length with h5 | h5
      · have c7 := rm_big hL l.length h5 []
        have c8 := num1 hC []
        have g5 : (l.length : Int) > 504 := by omega
        simp only [r1, r7, r8, r9, r10, r11, r12, r13, r14, r15, r16, r17, c5, c6, q8, q13, c7, c8, g5, b1, sP, sL, sN, bytesOf_map, T3, T4, T5, T9, T24, T33, EL, e_finWf, e_finWt, e_finMN, e_finMX, retM, meltV, tupV, D.asBox, D.row1, D.freeR, D.freeO, List.replicate_succ, stepD, accs, accP, accW, simpleOp, isAl, isExt, flipD, D.fresh1, D.row, D.plain, D.plain.plainL, St.close, St.close1, St.borrow, retV, resV, resL, outCL, outC, outL, outD, wantedV, opV, An.mid, thawV, St.settle, D.plainU, prune, envOf, get, put, eval, evalT, nz, argsV, capsV, ofV, binV, binV.aggV, unV, intV, eqOp, isConst, natV, optV, loadV, loadC, storeV, setC, St.at_, partV, partTy, indexAddrV, fieldAddrV, sliceV, sliceV.rowSl, sliceV.strSl, bounds, cutP, builtinV, lenV, maxL, maxV, appendV, St.elems, roomy, rowOf, rowS, isStr, esz, tdOf, convV, buildV, fillV, partsV, okParts, fillL, D.whole, D.demoteC, D.demote, demoteL, D.global, D.flat, D.leaf, D.cells, TI.agg, TD.rowish, callOpV, moveL, CC, keepB, St.borrowL, St.borrow, D.isLsl, adoptR, adoptC, adoptCL, adoptL, adopt, List.toArray, Array.toList, Nat.reduceEqDiff, Nat.reduceAdd, Nat.reduceSub, Nat.reduceMul, Nat.reduceLeDiff, Nat.reduceLT, reduceIte, reduceCtorEq, forall_const, imp_self, Int.reduceNeg, Int.reduceLT, Int.reduceLE, Int.reduceGT, Int.reduceGE, Int.reduceAdd, Int.reduceSub, Int.reduceMul, Int.reduceToNat, Int.reduceEq, ne_eq, eq_self]
      · have c7 := rm_ok hL l.length h5 []
        have g5 : ¬ (l.length : Int) > 504 := by omega
        have w5 : IntKind.i64.wrap (504 - (l.length : Int)) = ((504 - l.length : Nat) : Int) := by rw [wrapI (by omega) (by omega)]; omega
        simp only [r1, r7, r8, r9, r10, r11, r12, r13, r14, r15, r16, r17, c5, c6, q8, q13, c7, w5, g5, b1, sP, sL, sN, bytesOf_map, T3, T4, T5, T9, T24, T33, EL, e_finWf, e_finWt, e_finMN, e_finMX, retM, meltV, tupV, D.asBox, D.row1, D.freeR, D.freeO, List.replicate_succ, stepD, accs, accP, accW, simpleOp, isAl, isExt, flipD, D.fresh1, D.row, D.plain, D.plain.plainL, St.close, St.close1, St.borrow, retV, resV, resL, outCL, outC, outL, outD, wantedV, opV, An.mid, thawV, St.settle, D.plainU, prune, envOf, get, put, eval, evalT, nz, argsV, capsV, ofV, binV, binV.aggV, unV, intV, eqOp, isConst, natV, optV, loadV, loadC, storeV, setC, St.at_, partV, partTy, indexAddrV, fieldAddrV, sliceV, sliceV.rowSl, sliceV.strSl, bounds, cutP, builtinV, lenV, maxL, maxV, appendV, St.elems, roomy, rowOf, rowS, isStr, esz, tdOf, convV, buildV, fillV, partsV, okParts, fillL, D.whole, D.demoteC, D.demote, demoteL, D.global, D.flat, D.leaf, D.cells, TI.agg, TD.rowish, callOpV, moveL, CC, keepB, St.borrowL, St.borrow, D.isLsl, adoptR, adoptC, adoptCL, adoptL, adopt, List.toArray, Array.toList, Nat.reduceEqDiff, Nat.reduceAdd, Nat.reduceSub, Nat.reduceMul, Nat.reduceLeDiff, Nat.reduceLT, reduceIte, reduceCtorEq, forall_const, imp_self, Int.reduceNeg, Int.reduceLT, Int.reduceLE, Int.reduceGT, Int.reduceGE, Int.reduceAdd, Int.reduceSub, Int.reduceMul, Int.reduceToNat, Int.reduceEq, ne_eq, eq_self]

set_option maxRecDepth 10000 in
theorem run11 (hC : Known05 C) (k : UInt8) (l b : List UInt8) : runV T C fi11 [.int .u8 k.toNat, byV l .none, byV b .none] [] = some (.bool true, []) := by
  have hL := hC.toLib05
  have c5 := c53 hC
  by_cases h1 : (l.length : Int) > 2000
  · rw [e_run _ _ _ rfl]
    simp only [fi11, Tryd.f11, an11, h1, c5, T3, T4, T5, T9, T24, T33, EL, e_finWf, e_finWt, e_finMN, e_finMX, retM, meltV, tupV, D.asBox, D.row1, D.freeR, D.freeO, List.replicate_succ, stepD, accs, accP, accW, simpleOp, isAl, isExt, flipD, D.fresh1, D.row, D.plain, D.plain.plainL, St.close, St.close1, St.borrow, retV, resV, resL, outCL, outC, outL, outD, wantedV, opV, An.mid, thawV, St.settle, D.plainU, prune, envOf, get, put, eval, evalT, nz, argsV, capsV, ofV, binV, binV.aggV, unV, intV, eqOp, isConst, natV, optV, loadV, loadC, storeV, setC, St.at_, partV, partTy, indexAddrV, fieldAddrV, sliceV, sliceV.rowSl, sliceV.strSl, bounds, cutP, builtinV, lenV, maxL, maxV, appendV, St.elems, roomy, rowOf, rowS, isStr, esz, tdOf, convV, buildV, fillV, partsV, okParts, fillL, D.whole, D.demoteC, D.demote, demoteL, D.global, D.flat, D.leaf, D.cells, TI.agg, TD.rowish, callOpV, moveL, CC, keepB, St.borrowL, St.borrow, D.isLsl, adoptR, adoptC, adoptCL, adoptL, adopt, List.toArray, Array.toList, Nat.reduceEqDiff, Nat.reduceAdd, Nat.reduceSub, Nat.reduceMul, Nat.reduceLeDiff, Nat.reduceLT, reduceIte, reduceCtorEq, forall_const, imp_self, Int.reduceNeg, Int.reduceLT, Int.reduceLE, Int.reduceGT, Int.reduceGE, Int.reduceAdd, Int.reduceSub, Int.reduceMul, Int.reduceToNat, Int.reduceEq, ne_eq, eq_self]
  by_cases h2 : (b.length : Int) > 2000
  · rw [e_run _ _ _ rfl]
    simp only [fi11, Tryd.f11, an11, h1, h2, c5, T3, T4, T5, T9, T24, T33, EL, e_finWf, e_finWt, e_finMN, e_finMX, retM, meltV, tupV, D.asBox, D.row1, D.freeR, D.freeO, List.replicate_succ, stepD, accs, accP, accW, simpleOp, isAl, isExt, flipD, D.fresh1, D.row, D.plain, D.plain.plainL, St.close, St.close1, St.borrow, retV, resV, resL, outCL, outC, outL, outD, wantedV, opV, An.mid, thawV, St.settle, D.plainU, prune, envOf, get, put, eval, evalT, nz, argsV, capsV, ofV, binV, binV.aggV, unV, intV, eqOp, isConst, natV, optV, loadV, loadC, storeV, setC, St.at_, partV, partTy, indexAddrV, fieldAddrV, sliceV, sliceV.rowSl, sliceV.strSl, bounds, cutP, builtinV, lenV, maxL, maxV, appendV, St.elems, roomy, rowOf, rowS, isStr, esz, tdOf, convV, buildV, fillV, partsV, okParts, fillL, D.whole, D.demoteC, D.demote, demoteL, D.global, D.flat, D.leaf, D.cells, TI.agg, TD.rowish, callOpV, moveL, CC, keepB, St.borrowL, St.borrow, D.isLsl, adoptR, adoptC, adoptCL, adoptL, adopt, List.toArray, Array.toList, Nat.reduceEqDiff, Nat.reduceAdd, Nat.reduceSub, Nat.reduceMul, Nat.reduceLeDiff, Nat.reduceLT, reduceIte, reduceCtorEq, forall_const, imp_self, Int.reduceNeg, Int.reduceLT, Int.reduceLE, Int.reduceGT, Int.reduceGE, Int.reduceAdd, Int.reduceSub, Int.reduceMul, Int.reduceToNat, Int.reduceEq, ne_eq, eq_self]
  have hl : l.length ≤ 2000 := by omega
  have hb : b.length ≤ 2000 := by omega
  obtain ⟨P, p, e, hp, hSE, hRSE⟩ : ∃ (P : List UInt8) (p : Perm) (e : Nat), (p = .box ∧ e = 0 ∨ p = .fresh ∧ e ≠ 0) ∧ C 54 [.int .u8 k.toNat, .vec 1 (l.map byteD) .none] [] = some (.tuple [.vec 1 (P.map byteD) p, errD e], []) ∧ C 55 [.int .u8 k.toNat, .vec 1 (l.map byteD) .none] [] = some (.tuple [.vec 1 (P.map byteD) .fresh, .int .i64 e], []) := by
    cases hk : kindS k.toNat with
    | false => exact ⟨[], .fresh, 1, .inr ⟨rfl, by decide⟩, se_kind hL k l hk [], rs_kind hL k l hk []⟩
    | true =>
      rcases Nat.lt_or_ge 504 l.length with h5 | h5
      · exact ⟨[], .fresh, 5, .inr ⟨rfl, by decide⟩, se_long hL k l hk h5 [], rs_long hL k l hk h5 []⟩
      · exact ⟨pag k l, .box, 0, .inl ⟨rfl, rfl⟩, se_ok hL k l hk h5, rs_ok hL k l hk h5 []⟩
  obtain ⟨L, q, n, K, hq, hOP, hROP⟩ : ∃ (L : List UInt8) (q : Perm) (n K : Nat), (q = .none ∧ n = 0 ∨ q = .fresh ∧ n ≠ 0) ∧ C 56 [.vec 1 (b.map byteD) .none] [] = some (.tuple [.int .u8 K, .vec 1 (L.map byteD) .fresh, errD n], []) ∧ C 57 [.vec 1 (b.map byteD) .none] [] = some (.tuple [.int .u8 K, .vec 1 (L.map byteD) q, .int .i64 n], []) := by
    by_cases hb5 : b.length = 512
    · cases hs : isL b with
      | false => exact ⟨[], .fresh, 4, 0, .inr ⟨rfl, by decide⟩, opL_sum hL b hb5 hs [], ro_sum hL b hb5 hs []⟩
      | true =>
        cases ho : okO b with
        | false => exact ⟨[], .fresh, 3, 0, .inr ⟨rfl, by decide⟩, opL_bad hL b hb5 hs ho [], ro_bad hL b hb5 hs ho []⟩
        | true => exact ⟨ldO b, .none, 0, _, .inl ⟨rfl, rfl⟩, opL_ok hL b hb5 hs ho [], ro_ok hL b hb5 hs ho []⟩
    · exact ⟨[], .fresh, 3, 0, .inr ⟨rfl, by decide⟩, opL_len hL b hb5 [], ro_len hL b hb5 []⟩
  exact run11_any hC k l b P L e n K p q hp hq hl hb hSE hRSE hOP hROP

end Go.Proofs.YtbbbhalmlboapaaDoor.V
