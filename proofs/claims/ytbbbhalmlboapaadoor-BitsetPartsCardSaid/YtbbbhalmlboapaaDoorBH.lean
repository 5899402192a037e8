/-
Layer 17: BitsetTells.
-/
import Derived.Test.YtbbbhalmlboapaaDoorBG
namespace Go.Proofs.YtbbbhalmlboapaaDoor.V
open Go Go.RowKit
set_option linter.unusedSimpArgs false
set_option linter.unusedVariables false

/-! warren/warrenlaw17.BitsetTells -/
def an8 : An := ⟨fun | 8 => some [2, 3, 4, 7, 8, 9, 10, 11, 12, 13, 14, 15, 16] | 15 => some [2, 3, 4, 7, 9, 10, 11, 12, 13, 14, 15, 17, 18, 19] | _ => .none, fun _ => 0, fun | 3 => true | 10 => true | _ => false, fun _ => .none⟩
noncomputable def fi8 : FI := ⟨3, 167, Tryd.f8.body.getD .skip, Tryd.f8.results.toList, an8, false, false⟩
theorem ok8 : FnOk Tryd.prog 8 fi8 := ⟨⟨Tryd.f8, Tryd.func8, by kernel_rfl, rfl, rfl, rfl⟩, by decide, by kernel_rfl, fun h => by cases h⟩
noncomputable def lp8_0 : Code := subC [1, 1, 1, 1, 1, 1, 0, 1, 0, 0] (Tryd.f8.body.getD .skip)   -- head 8 keep [2, 3, 4, 7, 8, 9, 10, 11, 12, 13, 14, 15, 16]
noncomputable def lp8_1 : Code := subC [1, 1, 1, 1, 1, 1, 1, 1, 1, 0, 1, 0, 0] (Tryd.f8.body.getD .skip)   -- head 15 keep [2, 3, 4, 7, 9, 10, 11, 12, 13, 14, 15, 17, 18, 19]

variable {C : Callees}

theorem dyn_eq {T : Tab} {an : An} {C : Callees} {ops : List Oper} {acc : List (List Acc)} {k : Kont} {st : St} (h : okAccs ops acc = true) : goDyn T an C ops [] acc k st = goX T an C k .norm st := dyn_done (T := T) (an := an) (C := C) id h rfl

/-- So far. -/
def uptB (f : Nat → Bool) (k : Nat) : Nat → Bool := fun i => decide (i < k) && f i
theorem uptB_step (f : Nat → Bool) (k : Nat) : updA (uptB f k) k (f k) = uptB f (k + 1) := by
  funext i
  unfold updA uptB
  by_cases e : i = k
  · subst e; simp
  · rw [if_neg e, show decide (i < k + 1) = decide (i < k) from decide_eq_decide.2 (by omega)]
theorem uptB_end (f : Nat → Bool) : bools 1024 (uptB f 1024) = bools 1024 f := bools_ext fun i hi => by unfold uptB; simp [hi]
theorem uptB_0 (f : Nat → Bool) : (fun _ => false) = uptB f 0 := by funext k; unfold uptB; simp

def bthF (a b : Nat → Nat) : Nat → Bool := fun i => mem a i && mem b i
def eitF (a b : Nat → Nat) : Nat → Bool := fun i => mem a i || mem b i
def lesF (a b : Nat → Nat) : Nat → Bool := fun i => mem a i && !mem b i
def belF (n : Int) : Nat → Bool := fun i => decide ((i : Int) < n)
def wiF (a : Nat → Nat) (n : Int) : Nat → Bool := if mayN n = true then updA (mem a) n.toNat true else mem a
def woF (a : Nat → Nat) (n : Int) : Nat → Bool := if mayN n = true then updA (mem a) n.toNat false else mem a

abbrev ltL (a b : Nat → Nat) (n : Int) (k : Nat) : List (Option (List D)) :=
  [some (nums .u64 16 a), some (nums .u64 16 b), some (bools 1024 (mem a)), some (bools 1024 (mem b)), some (bools 1024 (wiF a n)), some (bools 1024 (woF a n)), some (bools 1024 (uptB (bthF a b) k)), some (bools 1024 (uptB (eitF a b) k)), some (bools 1024 (uptB (lesF a b) k)), some (bools 1024 (uptB (belF n) k))]
abbrev ltE (a b : Nat → Nat) (n : Int) : List (Option (List D)) :=
  [some (nums .u64 16 a), some (nums .u64 16 b), some (bools 1024 (mem a)), some (bools 1024 (mem b)), some (bools 1024 (wiF a n)), some (bools 1024 (woF a n)), some (bools 1024 (bthF a b)), some (bools 1024 (eitF a b)), some (bools 1024 (lesF a b)), some (bools 1024 (belF n))]
def st8 (B : Hp) (a b : Nat → Nat) (n : Int) (k : Nat) : St :=
  ⟨[(2, .int .i64 n), (3, .lptr 0 0), (4, .lptr 1 0), (7, .lptr 2 0), (8, .lptr 3 0), (9, .bool (mayN n)), (10, .lptr 4 0), (11, .lptr 5 0), (12, .lptr 6 0), (13, .lptr 7 0), (14, .lptr 8 0), (15, .lptr 9 0), (16, .int .i64 k)], ltL a b n k, [], B⟩

set_option maxRecDepth 10000 in
set_option maxHeartbeats 4000000 in
theorem loop8 (C : Callees) (B : Hp) (a b : Nat → Nat) (n : Int) (st : St) (hst : an8.at_ (some 8) st = st8 B a b n 0) :
    ∃ x st', loopC T an8 C lp8_0 st = some (x, st') ∧ x = .exit 0 ∧ ∃ ρ, st' = ⟨ρ, ltE a b n, [], B⟩ ∧ get ρ 2 = .int .i64 n ∧ get ρ 3 = .lptr 0 0 ∧ get ρ 4 = .lptr 1 0 ∧ get ρ 7 = .lptr 2 0 ∧ get ρ 9 = .bool (mayN n) ∧ get ρ 10 = .lptr 4 0 ∧ get ρ 11 = .lptr 5 0 ∧ get ρ 12 = .lptr 6 0 ∧ get ρ 13 = .lptr 7 0 ∧ get ρ 14 = .lptr 8 0 ∧ get ρ 15 = .lptr 9 0 := by
  refine loop_rule (st8 B a b n) (fun k => k ≤ 1024) (fun k => 1024 - k) _ ?_ 0 st hst (by omega)
  intro k hk
  rcases Nat.lt_or_ge k 1024 with h | h
  · left
    refine ⟨k + 1, ?_, by omega, by omega⟩
    have g0 : (k : Int) < 1024 := by omega
    have w1 : IntKind.i64.wrap ((k : Int) + 1) = ((k + 1 : Nat) : Int) := by rw [wrapI (by omega) (by omega)]; rfl
    have n1 := nat0 k
    have g1 := bools_get (p := mem a) h
    have g2 := bools_get (p := mem b) h
    have s1 := bools_set (n := 1024) (p := uptB (bthF a b) k) (x := bthF a b k) h
    have s2 := bools_set (n := 1024) (p := uptB (eitF a b) k) (x := eitF a b k) h
    have s3 := bools_set (n := 1024) (p := uptB (lesF a b) k) (x := lesF a b k) h
    have s4 := bools_set (n := 1024) (p := uptB (belF n) k) (x := belF n k) h
    rw [uptB_step] at s1 s2 s3 s4
    have e1 : bthF a b k = (mem a k && mem b k) := rfl
    have e2 : eitF a b k = (mem a k || mem b k) := rfl
    have e3 : lesF a b k = (mem a k && !mem b k) := rfl
    have e4 : belF n k = decide ((k : Int) < n) := rfl
    rw [e1] at s1
    rw [e2] at s2
    rw [e3] at s3
    rw [e4] at s4
    generalize mem a k = x at g1 s1 s2 s3
    generalize mem b k = y at g2 s1 s2 s3
    cases x <;> cases y <;>
    (simp only [Bool.true_and, Bool.false_and, Bool.and_true, Bool.and_false, Bool.true_or, Bool.false_or, Bool.or_self, Bool.not_true, Bool.not_false] at s1 s2 s3
     simp only [st8, lp8_0, subC, atC, Tryd.f8, an8, ltL, g0, w1, n1, h, g1, g2, s1, s2, s3, s4, AL, T3, T4, T66, T67, T68, T70, T75, EL, List.replicate_succ, stepD, accs, accP, accW, simpleOp, isAl, isExt, flipD, D.fresh1, D.row, D.plain, D.plain.plainL, St.close, St.close1, St.borrow, retV, resV, resL, outCL, outC, outL, outD, wantedV, opV, An.mid, thawV, D.plainU, prune, envOf, get, put, eval, evalT, nz, argsV, capsV, ofV, binV, binV.aggV, unV, intV, eqOp, isConst, natV, optV, loadV, loadC, storeV, St.at_, partV, partTy, indexAddrV, fieldAddrV, sliceV, sliceV.rowSl, sliceV.strSl, bounds, cutP, builtinV, lenV, maxL, maxV, appendV, St.elems, roomy, rowOf, rowS, isStr, esz, tdOf, convV, buildV, fillV, partsV, okParts, fillL, D.whole, D.demoteC, D.demote, demoteL, D.global, D.flat, D.leaf, D.cells, TI.agg, TD.rowish, callOpV, moveL, CC, keepB, St.borrowL, St.borrow, D.isLsl, adoptR, adoptC, adoptCL, adoptL, adopt, List.toArray, Array.toList, Nat.reduceEqDiff, Nat.reduceAdd, Nat.reduceSub, Nat.reduceMul, Nat.reduceLeDiff, Nat.reduceLT, reduceIte, reduceCtorEq, forall_const, imp_self, Int.reduceNeg, Int.reduceLT, Int.reduceLE, Int.reduceGT, Int.reduceGE, Int.reduceAdd, Int.reduceSub, Int.reduceMul, Int.reduceToNat, Int.reduceEq, ne_eq, eq_self]
     rw [dyn_eq]
     · simp only [ltL, g0, w1, n1, h, g1, g2, s1, s2, s3, s4, AL, T3, T4, T66, T67, T68, T70, T75, EL, List.replicate_succ, stepD, accs, accP, accW, simpleOp, isAl, isExt, flipD, D.fresh1, D.row, D.plain, D.plain.plainL, St.close, St.close1, St.borrow, retV, resV, resL, outCL, outC, outL, outD, wantedV, opV, An.mid, thawV, D.plainU, prune, envOf, get, put, eval, evalT, nz, argsV, capsV, ofV, binV, binV.aggV, unV, intV, eqOp, isConst, natV, optV, loadV, loadC, storeV, St.at_, partV, partTy, indexAddrV, fieldAddrV, sliceV, sliceV.rowSl, sliceV.strSl, bounds, cutP, builtinV, lenV, maxL, maxV, appendV, St.elems, roomy, rowOf, rowS, isStr, esz, tdOf, convV, buildV, fillV, partsV, okParts, fillL, D.whole, D.demoteC, D.demote, demoteL, D.global, D.flat, D.leaf, D.cells, TI.agg, TD.rowish, callOpV, moveL, CC, keepB, St.borrowL, St.borrow, D.isLsl, adoptR, adoptC, adoptCL, adoptL, adopt, List.toArray, Array.toList, Nat.reduceEqDiff, Nat.reduceAdd, Nat.reduceSub, Nat.reduceMul, Nat.reduceLeDiff, Nat.reduceLT, reduceIte, reduceCtorEq, forall_const, imp_self, Int.reduceNeg, Int.reduceLT, Int.reduceLE, Int.reduceGT, Int.reduceGE, Int.reduceAdd, Int.reduceSub, Int.reduceMul, Int.reduceToNat, Int.reduceEq, ne_eq, eq_self]
       refine ⟨_, rfl, ?_⟩
       show an8.at_ (some 8) _ = _
       simp only [an8, ren_map, toks_map, boxes_map, st8, ltL, AL, An.at_, tidyV, tidyW, tidyB, tidyT, sift, envBoxes, envToks, conToks, D.toks, D.tok1, toksL, D.boxes, D.box1, boxesL, memN, posN, renE, D.ren, D.ren1, renL, renB, St.content, St.boxOk, St.tokOk, trues, T3, T4, T66, T67, T68, T70, T75, EL, List.replicate_succ, stepD, accs, accP, accW, simpleOp, isAl, isExt, flipD, D.fresh1, D.row, D.plain, D.plain.plainL, St.close, St.close1, St.borrow, retV, resV, resL, outCL, outC, outL, outD, wantedV, opV, An.mid, thawV, D.plainU, prune, envOf, get, put, eval, evalT, nz, argsV, capsV, ofV, binV, binV.aggV, unV, intV, eqOp, isConst, natV, optV, loadV, loadC, storeV, setC, St.at_, partV, partTy, indexAddrV, fieldAddrV, sliceV, sliceV.rowSl, sliceV.strSl, bounds, cutP, builtinV, lenV, maxL, maxV, appendV, St.elems, roomy, rowOf, rowS, isStr, esz, tdOf, convV, buildV, fillV, partsV, okParts, fillL, D.whole, D.demoteC, D.demote, demoteL, D.global, D.flat, D.leaf, D.cells, TI.agg, TD.rowish, callOpV, moveL, CC, keepB, St.borrowL, St.borrow, D.isLsl, adoptR, adoptC, adoptCL, adoptL, adopt, List.toArray, Array.toList, Nat.reduceEqDiff, Nat.reduceAdd, Nat.reduceSub, Nat.reduceMul, Nat.reduceLeDiff, Nat.reduceLT, reduceIte, reduceCtorEq, forall_const, imp_self, Int.reduceNeg, Int.reduceLT, Int.reduceLE, Int.reduceGT, Int.reduceGE, Int.reduceAdd, Int.reduceSub, Int.reduceMul, Int.reduceToNat, Int.reduceEq, ne_eq, eq_self]
     · kernel_rfl)
  · right
    obtain rfl : k = 1024 := by omega
    have g0 : ¬ ((1024 : Nat) : Int) < 1024 := by omega
    have e1 := uptB_end (bthF a b)
    have e2 := uptB_end (eitF a b)
    have e3 := uptB_end (lesF a b)
    have e4 := uptB_end (belF n)
    simp only [st8, lp8_0, subC, atC, Tryd.f8, an8, g0, ltL, e1, e2, e3, e4, T3, T4, T66, T67, T68, T70, T75, EL, List.replicate_succ, stepD, accs, accP, accW, simpleOp, isAl, isExt, flipD, D.fresh1, D.row, D.plain, D.plain.plainL, St.close, St.close1, St.borrow, retV, resV, resL, outCL, outC, outL, outD, wantedV, opV, An.mid, thawV, D.plainU, prune, envOf, get, put, eval, evalT, nz, argsV, capsV, ofV, binV, binV.aggV, unV, intV, eqOp, isConst, natV, optV, loadV, loadC, storeV, setC, St.at_, partV, partTy, indexAddrV, fieldAddrV, sliceV, sliceV.rowSl, sliceV.strSl, bounds, cutP, builtinV, lenV, maxL, maxV, appendV, St.elems, roomy, rowOf, rowS, isStr, esz, tdOf, convV, buildV, fillV, partsV, okParts, fillL, D.whole, D.demoteC, D.demote, demoteL, D.global, D.flat, D.leaf, D.cells, TI.agg, TD.rowish, callOpV, moveL, CC, keepB, St.borrowL, St.borrow, D.isLsl, adoptR, adoptC, adoptCL, adoptL, adopt, List.toArray, Array.toList, Nat.reduceEqDiff, Nat.reduceAdd, Nat.reduceSub, Nat.reduceMul, Nat.reduceLeDiff, Nat.reduceLT, reduceIte, reduceCtorEq, forall_const, imp_self, Int.reduceNeg, Int.reduceLT, Int.reduceLE, Int.reduceGT, Int.reduceGE, Int.reduceAdd, Int.reduceSub, Int.reduceMul, Int.reduceToNat, Int.reduceEq, ne_eq, eq_self]
    exact ⟨_, _, rfl, by simp, rfl, _, rfl, rfl, rfl, rfl, rfl, rfl, rfl, rfl, rfl, rfl, rfl, rfl⟩

abbrev ltM (a b : Nat → Nat) (n : Int) : List (Option (List D)) :=
  [some (nums .u64 16 a), some (nums .u64 16 b), some (bools 1024 (mem a)), some (bools 1024 (wiF a n)), some (bools 1024 (woF a n)), some (bools 1024 (bthF a b)), some (bools 1024 (eitF a b)), some (bools 1024 (lesF a b)), some (bools 1024 (belF n))]
def st8_1 (B : Hp) (a b : Nat → Nat) (n : Int) (l : List Nat) (k : Nat) : St :=
  ⟨[(2, .int .i64 n), (3, .lptr 0 0), (4, .lptr 1 0), (7, .lptr 2 0), (9, .bool (mayN n)), (10, .lptr 3 0), (11, .lptr 4 0), (12, .lptr 5 0), (13, .lptr 6 0), (14, .lptr 7 0), (15, .lptr 8 0), (17, .vec 1 (l.map intD) (.own 0)), (18, .vec 1 (l.map intD) (.own 1)), (19, .int .i64 k)], ltM a b n, [true, true], B⟩

set_option maxRecDepth 10000 in
set_option maxHeartbeats 2000000 in
theorem loop8_1 (C : Callees) (B : Hp) (a b : Nat → Nat) (n : Int) (l : List Nat) (hl : l.length ≤ 1024) (st : St) (hst : an8.at_ (some 15) st = st8_1 B a b n l 0) :
    ∃ x st', loopC T an8 C lp8_1 st = some (x, st') ∧ x = .exit 2 ∧ ∃ ρ, st' = ⟨ρ, ltM a b n, [true, true], B⟩ ∧ get ρ 2 = .int .i64 n ∧ get ρ 3 = .lptr 0 0 ∧ get ρ 4 = .lptr 1 0 ∧ get ρ 7 = .lptr 2 0 ∧ get ρ 9 = .bool (mayN n) ∧ get ρ 10 = .lptr 3 0 ∧ get ρ 11 = .lptr 4 0 ∧ get ρ 12 = .lptr 5 0 ∧ get ρ 13 = .lptr 6 0 ∧ get ρ 14 = .lptr 7 0 ∧ get ρ 15 = .lptr 8 0 := by
  refine loop_rule (st8_1 B a b n l) (fun k => k ≤ l.length) (fun k => l.length - k) _ ?_ 0 st hst (Nat.zero_le _)
  intro k hk
  rcases Nat.lt_or_ge k l.length with h | h
  · left
    refine ⟨k + 1, ?_, by omega, by omega⟩
    obtain ⟨x, hx⟩ : ∃ x, l[k]? = some x := ⟨_, List.getElem?_eq_getElem h⟩
    have g0 : (k : Int) < l.length := by omega
    have w1 : IntKind.i64.wrap ((k : Int) + 1) = ((k + 1 : Nat) : Int) := by rw [wrapI (by omega) (by omega)]; rfl
    have n1 := nat0 k
    have g1 : (l.map intD)[k]? = some (.int .i64 (x : Nat)) := by rw [List.getElem?_map, hx]; rfl
    simp only [st8_1, lp8_1, subC, atC, Tryd.f8, an8, g0, w1, n1, g1, AL, T3, T4, T66, T67, T68, T70, T75, EL, List.replicate_succ, stepD, accs, accP, accW, simpleOp, isAl, isExt, flipD, D.fresh1, D.row, D.plain, D.plain.plainL, St.close, St.close1, St.borrow, retV, resV, resL, outCL, outC, outL, outD, wantedV, opV, An.mid, thawV, D.plainU, prune, envOf, get, put, eval, evalT, nz, argsV, capsV, ofV, binV, binV.aggV, unV, intV, eqOp, isConst, natV, optV, loadV, loadC, storeV, St.at_, partV, partTy, indexAddrV, fieldAddrV, sliceV, sliceV.rowSl, sliceV.strSl, bounds, cutP, builtinV, lenV, maxL, maxV, appendV, St.elems, roomy, rowOf, rowS, isStr, esz, tdOf, convV, buildV, fillV, partsV, okParts, fillL, D.whole, D.demoteC, D.demote, demoteL, D.global, D.flat, D.leaf, D.cells, TI.agg, TD.rowish, callOpV, moveL, CC, keepB, St.borrowL, St.borrow, D.isLsl, adoptR, adoptC, adoptCL, adoptL, adopt, List.toArray, Array.toList, Nat.reduceEqDiff, Nat.reduceAdd, Nat.reduceSub, Nat.reduceMul, Nat.reduceLeDiff, Nat.reduceLT, reduceIte, reduceCtorEq, forall_const, imp_self, Int.reduceNeg, Int.reduceLT, Int.reduceLE, Int.reduceGT, Int.reduceGE, Int.reduceAdd, Int.reduceSub, Int.reduceMul, Int.reduceToNat, Int.reduceEq, ne_eq, eq_self]
    refine ⟨_, rfl, ?_⟩
    show an8.at_ (some 15) _ = _
    simp only [an8, ren_map, toks_map, boxes_map, st8_1, ltM, AL, An.at_, tidyV, tidyW, tidyB, tidyT, sift, envBoxes, envToks, conToks, D.toks, D.tok1, toksL, D.boxes, D.box1, boxesL, memN, posN, renE, D.ren, D.ren1, renL, renB, St.content, St.boxOk, St.tokOk, trues, T3, T4, T66, T67, T68, T70, T75, EL, List.replicate_succ, stepD, accs, accP, accW, simpleOp, isAl, isExt, flipD, D.fresh1, D.row, D.plain, D.plain.plainL, St.close, St.close1, St.borrow, retV, resV, resL, outCL, outC, outL, outD, wantedV, opV, An.mid, thawV, D.plainU, prune, envOf, get, put, eval, evalT, nz, argsV, capsV, ofV, binV, binV.aggV, unV, intV, eqOp, isConst, natV, optV, loadV, loadC, storeV, setC, St.at_, partV, partTy, indexAddrV, fieldAddrV, sliceV, sliceV.rowSl, sliceV.strSl, bounds, cutP, builtinV, lenV, maxL, maxV, appendV, St.elems, roomy, rowOf, rowS, isStr, esz, tdOf, convV, buildV, fillV, partsV, okParts, fillL, D.whole, D.demoteC, D.demote, demoteL, D.global, D.flat, D.leaf, D.cells, TI.agg, TD.rowish, callOpV, moveL, CC, keepB, St.borrowL, St.borrow, D.isLsl, adoptR, adoptC, adoptCL, adoptL, adopt, List.toArray, Array.toList, Nat.reduceEqDiff, Nat.reduceAdd, Nat.reduceSub, Nat.reduceMul, Nat.reduceLeDiff, Nat.reduceLT, reduceIte, reduceCtorEq, forall_const, imp_self, Int.reduceNeg, Int.reduceLT, Int.reduceLE, Int.reduceGT, Int.reduceGE, Int.reduceAdd, Int.reduceSub, Int.reduceMul, Int.reduceToNat, Int.reduceEq, ne_eq, eq_self]
  · right
    obtain rfl : k = l.length := by omega
    have g0 : ¬ ((l.length : Nat) : Int) < l.length := by omega
    simp only [st8_1, lp8_1, subC, atC, Tryd.f8, an8, g0, T3, T4, T66, T67, T68, T70, T75, EL, List.replicate_succ, stepD, accs, accP, accW, simpleOp, isAl, isExt, flipD, D.fresh1, D.row, D.plain, D.plain.plainL, St.close, St.close1, St.borrow, retV, resV, resL, outCL, outC, outL, outD, wantedV, opV, An.mid, thawV, D.plainU, prune, envOf, get, put, eval, evalT, nz, argsV, capsV, ofV, binV, binV.aggV, unV, intV, eqOp, isConst, natV, optV, loadV, loadC, storeV, setC, St.at_, partV, partTy, indexAddrV, fieldAddrV, sliceV, sliceV.rowSl, sliceV.strSl, bounds, cutP, builtinV, lenV, maxL, maxV, appendV, St.elems, roomy, rowOf, rowS, isStr, esz, tdOf, convV, buildV, fillV, partsV, okParts, fillL, D.whole, D.demoteC, D.demote, demoteL, D.global, D.flat, D.leaf, D.cells, TI.agg, TD.rowish, callOpV, moveL, CC, keepB, St.borrowL, St.borrow, D.isLsl, adoptR, adoptC, adoptCL, adoptL, adopt, List.toArray, Array.toList, Nat.reduceEqDiff, Nat.reduceAdd, Nat.reduceSub, Nat.reduceMul, Nat.reduceLeDiff, Nat.reduceLT, reduceIte, reduceCtorEq, forall_const, imp_self, Int.reduceNeg, Int.reduceLT, Int.reduceLE, Int.reduceGT, Int.reduceGE, Int.reduceAdd, Int.reduceSub, Int.reduceMul, Int.reduceToNat, Int.reduceEq, ne_eq, eq_self]
    exact ⟨_, _, rfl, by simp, rfl, _, rfl, rfl, rfl, rfl, rfl, rfl, rfl, rfl, rfl, rfl, rfl, rfl⟩

theorem i64_and {x : Nat} (h : x < 1024) : bitsV .and .i64 (x : Int) 1023 = (x : Int) := by
  have h1 : (BitVec.ofNat 64 x &&& BitVec.ofNat 64 1023).toNat = x := by
    rw [BitVec.toNat_and, BitVec.toNat_ofNat, BitVec.toNat_ofNat, Nat.mod_eq_of_lt (by omega), Nat.mod_eq_of_lt (by decide)]
    have := Nat.and_two_pow_sub_one_eq_mod x 10
    rw [show (1023 : Nat) = 2 ^ 10 - 1 from rfl, this]; exact Nat.mod_eq_of_lt h
  show IntKind.i64.wrap (((BitVec.ofInt 64 (x : Int) &&& BitVec.ofInt 64 ((1023 : Nat) : Int)).toNat : Nat) : Int) = x
  rw [ofInt_nat, ofInt_nat, h1, wrapI (by omega) (by omega)]

theorem withN_w {s : Nat → Nat} (hs : Wds s) (n : Int) : Wds (withN s n) := by
  unfold withN
  split
  · rename_i h
    obtain ⟨k, rfl, hk⟩ := mayN_t h
    rw [Int.toNat_natCast]; exact with_w hs k hk
  · exact hs
theorem woutN_w {s : Nat → Nat} (hs : Wds s) (n : Int) : Wds (woutN s n) := by
  unfold woutN
  split
  · rename_i h
    obtain ⟨k, rfl, hk⟩ := mayN_t h
    rw [Int.toNat_natCast]; exact wout_w hs k hk
  · exact hs

set_option maxRecDepth 10000 in
set_option maxHeartbeats 8000000 in
theorem run8 (hC : Known17 C) (a b : Nat → Nat) (n : Int) (ha : Wds a) (hb : Wds b) (B : Hp) : runV T C fi8 [sD a, sD b, .int .i64 n] B = some (.bool true, B) := by
  rw [e_run _ _ _ rfl]
  have hR := hC.toRef17
  have hL := hR.toLib17
  have e4 := c50 hC
  have c1 := c38 hR ha
  have c2 := c38 hR hb
  have c3 := c39 hL ha
  have c4 := c40 hR (mem a)
  have c5 := c41 hL ha
  have c6 := c42 hL ha n
  have c7 := c43 hL ha n
  have c8 := c44 hR (wiF a n)
  have c9 := c45 hL ha n
  have c10 := c44 hR (woF a n)
  have c11 := c46 hL ha hb
  have c12 := c44 hR (bthF a b)
  have c13 := c47 hL ha hb
  have c14 := c44 hR (eitF a b)
  have c15 := c48 hL ha hb
  have c16 := c44 hR (lesF a b)
  have c17 := c49 hL n
  have c18 := c44 hR (belF n)
  have q1 := eqS (set_ext (withN_w ha n) (toL_w (wiF a n)) (fun k _ => by
    rw [mem_toL]
    unfold withN wiF
    split
    · rw [mem_with]
      unfold updA
      by_cases e : k = n.toNat <;> simp [e]
    · rfl))
  have q2 := eqS (set_ext (woutN_w ha n) (toL_w (woF a n)) (fun k _ => by
    rw [mem_toL]
    unfold woutN woF
    split
    · rename_i h
      obtain ⟨j, rfl, hj⟩ := mayN_t h
      rw [Int.toNat_natCast, mem_wout ha hj]
      unfold updA
      by_cases e : k = j <;> simp [e]
    · rfl))
  have q3 := eqS (set_ext (both_w (t := b) ha) (toL_w (bthF a b)) (fun k _ => by rw [mem_toL, mem_both]; rfl))
  have q4 := eqS (set_ext (eith_w ha hb) (toL_w (eitF a b)) (fun k _ => by rw [mem_toL, mem_eith]; rfl))
  have q5 := eqS (set_ext (less_w (t := b) ha) (toL_w (lesF a b)) (fun k hk => by rw [mem_toL, mem_less ha hb hk]; rfl))
  have q6 := eqS (set_ext (belo_w (clip n)) (toL_w (belF n)) (fun k hk => by
    rw [mem_toL, mem_belo]
    exact decide_eq_decide.2 (by unfold clip; omega)))
  have hlen : cnt a = (lst (mem a) 1024).length := (lst_len (mem a) 1024).symm
  rw [hlen] at c5
  have hl := cnt_le a
  rw [hlen] at hl
  generalize lst (mem a) 1024 = l at *
  by_cases h0 : n ≥ 0
  · by_cases h1 : n < 1024
    · obtain ⟨j, rfl⟩ : ∃ j : Nat, n = j := ⟨n.toNat, by omega⟩
      have hj : j < 1024 := by omega
      have hn := mayN_n hj
      have ew : wiF a j = updA (mem a) j true := by unfold wiF; rw [hn, Int.toNat_natCast]; rfl
      have eo : woF a j = updA (mem a) j false := by unfold woF; rw [hn, Int.toNat_natCast]; rfl
      rw [show hasS a j = mem a j by unfold hasS; rw [hn, Int.toNat_natCast, Bool.true_and]] at c6
      have n1 := nat0 j
      have s1 := bools_set (n := 1024) (p := mem a) (x := true) hj
      have s2 := bools_set (n := 1024) (p := mem a) (x := false) hj
      have g1 := bools_get (p := mem a) hj
      have b1 := i64_and hj
      simp only [fi8, Tryd.f8, an8, c1, c2, h0, h1, n1, hj, s1, s2, g1, b1, AL, T3, T4, T66, T67, T68, T70, T75, EL, List.replicate_succ, stepD, accs, accP, accW, simpleOp, isAl, isExt, flipD, D.fresh1, D.row, D.plain, D.plain.plainL, St.close, St.close1, St.borrow, retV, resV, resL, outCL, outC, outL, outD, wantedV, opV, An.mid, thawV, D.plainU, prune, envOf, get, put, eval, evalT, nz, argsV, capsV, ofV, binV, binV.aggV, unV, intV, eqOp, isConst, natV, optV, loadV, loadC, storeV, St.at_, partV, partTy, indexAddrV, fieldAddrV, sliceV, sliceV.rowSl, sliceV.strSl, bounds, cutP, builtinV, lenV, maxL, maxV, appendV, St.elems, roomy, rowOf, rowS, isStr, esz, tdOf, convV, buildV, fillV, partsV, okParts, fillL, D.whole, D.demoteC, D.demote, demoteL, D.global, D.flat, D.leaf, D.cells, TI.agg, TD.rowish, callOpV, moveL, CC, keepB, St.borrowL, St.borrow, D.isLsl, adoptR, adoptC, adoptCL, adoptL, adopt, List.toArray, Array.toList, Nat.reduceEqDiff, Nat.reduceAdd, Nat.reduceSub, Nat.reduceMul, Nat.reduceLeDiff, Nat.reduceLT, reduceIte, reduceCtorEq, forall_const, imp_self, Int.reduceNeg, Int.reduceLT, Int.reduceLE, Int.reduceGT, Int.reduceGE, Int.reduceAdd, Int.reduceSub, Int.reduceMul, Int.reduceToNat, Int.reduceEq, ne_eq, eq_self]
      refine' dyn_done (fin T _ _ _) ?hd3 ?he3
      case hd3 => kernel_rfl
      simp only [c1, c2, h0, h1, n1, hj, s1, s2, g1, b1, AL, T3, T4, T66, T67, T68, T70, T75, EL, List.replicate_succ, stepD, accs, accP, accW, simpleOp, isAl, isExt, flipD, D.fresh1, D.row, D.plain, D.plain.plainL, St.close, St.close1, St.borrow, retV, resV, resL, outCL, outC, outL, outD, wantedV, opV, An.mid, thawV, D.plainU, prune, envOf, get, put, eval, evalT, nz, argsV, capsV, ofV, binV, binV.aggV, unV, intV, eqOp, isConst, natV, optV, loadV, loadC, storeV, St.at_, partV, partTy, indexAddrV, fieldAddrV, sliceV, sliceV.rowSl, sliceV.strSl, bounds, cutP, builtinV, lenV, maxL, maxV, appendV, St.elems, roomy, rowOf, rowS, isStr, esz, tdOf, convV, buildV, fillV, partsV, okParts, fillL, D.whole, D.demoteC, D.demote, demoteL, D.global, D.flat, D.leaf, D.cells, TI.agg, TD.rowish, callOpV, moveL, CC, keepB, St.borrowL, St.borrow, D.isLsl, adoptR, adoptC, adoptCL, adoptL, adopt, List.toArray, Array.toList, Nat.reduceEqDiff, Nat.reduceAdd, Nat.reduceSub, Nat.reduceMul, Nat.reduceLeDiff, Nat.reduceLT, reduceIte, reduceCtorEq, forall_const, imp_self, Int.reduceNeg, Int.reduceLT, Int.reduceLE, Int.reduceGT, Int.reduceGE, Int.reduceAdd, Int.reduceSub, Int.reduceMul, Int.reduceToNat, Int.reduceEq, ne_eq, eq_self]
      refine' in_loop (c' := lp8_0) (fin T _ _ _) ?h3 rfl ?q3
      case h3 =>
        refine loop8 C B a b j _ ?_
        simp only [an8, ren_map, toks_map, boxes_map, st8, ltL, hn, ew, eo, ← uptB_0, AL, An.at_, tidyV, tidyW, tidyB, tidyT, sift, envBoxes, envToks, conToks, D.toks, D.tok1, toksL, D.boxes, D.box1, boxesL, memN, posN, renE, D.ren, D.ren1, renL, renB, St.content, St.boxOk, St.tokOk, trues, T3, T4, T66, T67, T68, T70, T75, EL, List.replicate_succ, stepD, accs, accP, accW, simpleOp, isAl, isExt, flipD, D.fresh1, D.row, D.plain, D.plain.plainL, St.close, St.close1, St.borrow, retV, resV, resL, outCL, outC, outL, outD, wantedV, opV, An.mid, thawV, D.plainU, prune, envOf, get, put, eval, evalT, nz, argsV, capsV, ofV, binV, binV.aggV, unV, intV, eqOp, isConst, natV, optV, loadV, loadC, storeV, setC, St.at_, partV, partTy, indexAddrV, fieldAddrV, sliceV, sliceV.rowSl, sliceV.strSl, bounds, cutP, builtinV, lenV, maxL, maxV, appendV, St.elems, roomy, rowOf, rowS, isStr, esz, tdOf, convV, buildV, fillV, partsV, okParts, fillL, D.whole, D.demoteC, D.demote, demoteL, D.global, D.flat, D.leaf, D.cells, TI.agg, TD.rowish, callOpV, moveL, CC, keepB, St.borrowL, St.borrow, D.isLsl, adoptR, adoptC, adoptCL, adoptL, adopt, List.toArray, Array.toList, Nat.reduceEqDiff, Nat.reduceAdd, Nat.reduceSub, Nat.reduceMul, Nat.reduceLeDiff, Nat.reduceLT, reduceIte, reduceCtorEq, forall_const, imp_self, Int.reduceNeg, Int.reduceLT, Int.reduceLE, Int.reduceGT, Int.reduceGE, Int.reduceAdd, Int.reduceSub, Int.reduceMul, Int.reduceToNat, Int.reduceEq, ne_eq, eq_self]
        rfl
      rintro x st' ⟨rfl, ρ, rfl, r1, r2, r3, r4, r5, r6, r7, r8, r9, r10, r11⟩
      rw [hn] at r5
      simp only [r1, r2, r3, r4, r5, r6, r7, r8, r9, r10, r11, c3, c4, c5, ltE, AL, T3, T4, T66, T67, T68, T70, T75, EL, List.replicate_succ, stepD, accs, accP, accW, simpleOp, isAl, isExt, flipD, D.fresh1, D.row, D.plain, D.plain.plainL, St.close, St.close1, St.borrow, retV, resV, resL, outCL, outC, outL, outD, wantedV, opV, An.mid, thawV, D.plainU, prune, envOf, get, put, eval, evalT, nz, argsV, capsV, ofV, binV, binV.aggV, unV, intV, eqOp, isConst, natV, optV, loadV, loadC, storeV, St.at_, partV, partTy, indexAddrV, fieldAddrV, sliceV, sliceV.rowSl, sliceV.strSl, bounds, cutP, builtinV, lenV, maxL, maxV, appendV, St.elems, roomy, rowOf, rowS, isStr, esz, tdOf, convV, buildV, fillV, partsV, okParts, fillL, D.whole, D.demoteC, D.demote, demoteL, D.global, D.flat, D.leaf, D.cells, TI.agg, TD.rowish, callOpV, moveL, CC, keepB, St.borrowL, St.borrow, D.isLsl, adoptR, adoptC, adoptCL, adoptL, adopt, List.toArray, Array.toList, Nat.reduceEqDiff, Nat.reduceAdd, Nat.reduceSub, Nat.reduceMul, Nat.reduceLeDiff, Nat.reduceLT, reduceIte, reduceCtorEq, forall_const, imp_self, Int.reduceNeg, Int.reduceLT, Int.reduceLE, Int.reduceGT, Int.reduceGE, Int.reduceAdd, Int.reduceSub, Int.reduceMul, Int.reduceToNat, Int.reduceEq, ne_eq, eq_self]
      refine' in_loop (c' := lp8_1) (fin T _ _ _) ?hh3 rfl ?qq3
      case hh3 =>
        refine loop8_1 C B a b j l (by omega) _ ?_
        simp only [an8, ren_map, toks_map, boxes_map, st8_1, ltM, ltE, hn, r1, r2, r3, r4, r5, r6, r7, r8, r9, r10, r11, AL, An.at_, tidyV, tidyW, tidyB, tidyT, sift, envBoxes, envToks, conToks, D.toks, D.tok1, toksL, D.boxes, D.box1, boxesL, memN, posN, renE, D.ren, D.ren1, renL, renB, St.content, St.boxOk, St.tokOk, trues, T3, T4, T66, T67, T68, T70, T75, EL, List.replicate_succ, stepD, accs, accP, accW, simpleOp, isAl, isExt, flipD, D.fresh1, D.row, D.plain, D.plain.plainL, St.close, St.close1, St.borrow, retV, resV, resL, outCL, outC, outL, outD, wantedV, opV, An.mid, thawV, D.plainU, prune, envOf, get, put, eval, evalT, nz, argsV, capsV, ofV, binV, binV.aggV, unV, intV, eqOp, isConst, natV, optV, loadV, loadC, storeV, setC, St.at_, partV, partTy, indexAddrV, fieldAddrV, sliceV, sliceV.rowSl, sliceV.strSl, bounds, cutP, builtinV, lenV, maxL, maxV, appendV, St.elems, roomy, rowOf, rowS, isStr, esz, tdOf, convV, buildV, fillV, partsV, okParts, fillL, D.whole, D.demoteC, D.demote, demoteL, D.global, D.flat, D.leaf, D.cells, TI.agg, TD.rowish, callOpV, moveL, CC, keepB, St.borrowL, St.borrow, D.isLsl, adoptR, adoptC, adoptCL, adoptL, adopt, List.toArray, Array.toList, Nat.reduceEqDiff, Nat.reduceAdd, Nat.reduceSub, Nat.reduceMul, Nat.reduceLeDiff, Nat.reduceLT, reduceIte, reduceCtorEq, forall_const, imp_self, Int.reduceNeg, Int.reduceLT, Int.reduceLE, Int.reduceGT, Int.reduceGE, Int.reduceAdd, Int.reduceSub, Int.reduceMul, Int.reduceToNat, Int.reduceEq, ne_eq, eq_self]
        rfl
      rintro x st' ⟨rfl, ρ, rfl, r1, r2, r3, r4, r5, r6, r7, r8, r9, r10, r11⟩
      rw [hn] at r5
      simp only [r1, r2, r3, r4, r5, r6, r7, r8, r9, r10, r11, h0, h1, n1, hj, s1, s2, g1, b1, c6, c7, c8, c9, c10, c11, c12, c13, c14, c15, c16, c17, c18, q1, q2, q3, q4, q5, q6, e4, ltM, AL, T3, T4, T66, T67, T68, T70, T75, EL, List.replicate_succ, stepD, accs, accP, accW, simpleOp, isAl, isExt, flipD, D.fresh1, D.row, D.plain, D.plain.plainL, St.close, St.close1, St.borrow, retV, resV, resL, outCL, outC, outL, outD, wantedV, opV, An.mid, thawV, D.plainU, prune, envOf, get, put, eval, evalT, nz, argsV, capsV, ofV, binV, binV.aggV, unV, intV, eqOp, isConst, natV, optV, loadV, loadC, storeV, St.at_, partV, partTy, indexAddrV, fieldAddrV, sliceV, sliceV.rowSl, sliceV.strSl, bounds, cutP, builtinV, lenV, maxL, maxV, appendV, St.elems, roomy, rowOf, rowS, isStr, esz, tdOf, convV, buildV, fillV, partsV, okParts, fillL, D.whole, D.demoteC, D.demote, demoteL, D.global, D.flat, D.leaf, D.cells, TI.agg, TD.rowish, callOpV, moveL, CC, keepB, St.borrowL, St.borrow, D.isLsl, adoptR, adoptC, adoptCL, adoptL, adopt, List.toArray, Array.toList, Nat.reduceEqDiff, Nat.reduceAdd, Nat.reduceSub, Nat.reduceMul, Nat.reduceLeDiff, Nat.reduceLT, reduceIte, reduceCtorEq, forall_const, imp_self, Int.reduceNeg, Int.reduceLT, Int.reduceLE, Int.reduceGT, Int.reduceGE, Int.reduceAdd, Int.reduceSub, Int.reduceMul, Int.reduceToNat, Int.reduceEq, ne_eq, eq_self]
      done
    · have hn : mayN n = false := by simp [mayN, h1]
      have ew : wiF a n = mem a := by unfold wiF; rw [hn]; rfl
      have eo : woF a n = mem a := by unfold woF; rw [hn]; rfl
      rw [show hasS a n = false by unfold hasS; rw [hn]; rfl] at c6
      simp only [fi8, Tryd.f8, an8, c1, c2, h0, h1, AL, T3, T4, T66, T67, T68, T70, T75, EL, List.replicate_succ, stepD, accs, accP, accW, simpleOp, isAl, isExt, flipD, D.fresh1, D.row, D.plain, D.plain.plainL, St.close, St.close1, St.borrow, retV, resV, resL, outCL, outC, outL, outD, wantedV, opV, An.mid, thawV, D.plainU, prune, envOf, get, put, eval, evalT, nz, argsV, capsV, ofV, binV, binV.aggV, unV, intV, eqOp, isConst, natV, optV, loadV, loadC, storeV, St.at_, partV, partTy, indexAddrV, fieldAddrV, sliceV, sliceV.rowSl, sliceV.strSl, bounds, cutP, builtinV, lenV, maxL, maxV, appendV, St.elems, roomy, rowOf, rowS, isStr, esz, tdOf, convV, buildV, fillV, partsV, okParts, fillL, D.whole, D.demoteC, D.demote, demoteL, D.global, D.flat, D.leaf, D.cells, TI.agg, TD.rowish, callOpV, moveL, CC, keepB, St.borrowL, St.borrow, D.isLsl, adoptR, adoptC, adoptCL, adoptL, adopt, List.toArray, Array.toList, Nat.reduceEqDiff, Nat.reduceAdd, Nat.reduceSub, Nat.reduceMul, Nat.reduceLeDiff, Nat.reduceLT, reduceIte, reduceCtorEq, forall_const, imp_self, Int.reduceNeg, Int.reduceLT, Int.reduceLE, Int.reduceGT, Int.reduceGE, Int.reduceAdd, Int.reduceSub, Int.reduceMul, Int.reduceToNat, Int.reduceEq, ne_eq, eq_self]
      refine' dyn_done (fin T _ _ _) ?hd1 ?he1
      case hd1 => kernel_rfl
      simp only [c1, c2, h0, h1, AL, T3, T4, T66, T67, T68, T70, T75, EL, List.replicate_succ, stepD, accs, accP, accW, simpleOp, isAl, isExt, flipD, D.fresh1, D.row, D.plain, D.plain.plainL, St.close, St.close1, St.borrow, retV, resV, resL, outCL, outC, outL, outD, wantedV, opV, An.mid, thawV, D.plainU, prune, envOf, get, put, eval, evalT, nz, argsV, capsV, ofV, binV, binV.aggV, unV, intV, eqOp, isConst, natV, optV, loadV, loadC, storeV, St.at_, partV, partTy, indexAddrV, fieldAddrV, sliceV, sliceV.rowSl, sliceV.strSl, bounds, cutP, builtinV, lenV, maxL, maxV, appendV, St.elems, roomy, rowOf, rowS, isStr, esz, tdOf, convV, buildV, fillV, partsV, okParts, fillL, D.whole, D.demoteC, D.demote, demoteL, D.global, D.flat, D.leaf, D.cells, TI.agg, TD.rowish, callOpV, moveL, CC, keepB, St.borrowL, St.borrow, D.isLsl, adoptR, adoptC, adoptCL, adoptL, adopt, List.toArray, Array.toList, Nat.reduceEqDiff, Nat.reduceAdd, Nat.reduceSub, Nat.reduceMul, Nat.reduceLeDiff, Nat.reduceLT, reduceIte, reduceCtorEq, forall_const, imp_self, Int.reduceNeg, Int.reduceLT, Int.reduceLE, Int.reduceGT, Int.reduceGE, Int.reduceAdd, Int.reduceSub, Int.reduceMul, Int.reduceToNat, Int.reduceEq, ne_eq, eq_self]
      refine' in_loop (c' := lp8_0) (fin T _ _ _) ?h1 rfl ?q1
      case h1 =>
        refine loop8 C B a b n _ ?_
        simp only [an8, ren_map, toks_map, boxes_map, st8, ltL, hn, ew, eo, ← uptB_0, AL, An.at_, tidyV, tidyW, tidyB, tidyT, sift, envBoxes, envToks, conToks, D.toks, D.tok1, toksL, D.boxes, D.box1, boxesL, memN, posN, renE, D.ren, D.ren1, renL, renB, St.content, St.boxOk, St.tokOk, trues, T3, T4, T66, T67, T68, T70, T75, EL, List.replicate_succ, stepD, accs, accP, accW, simpleOp, isAl, isExt, flipD, D.fresh1, D.row, D.plain, D.plain.plainL, St.close, St.close1, St.borrow, retV, resV, resL, outCL, outC, outL, outD, wantedV, opV, An.mid, thawV, D.plainU, prune, envOf, get, put, eval, evalT, nz, argsV, capsV, ofV, binV, binV.aggV, unV, intV, eqOp, isConst, natV, optV, loadV, loadC, storeV, setC, St.at_, partV, partTy, indexAddrV, fieldAddrV, sliceV, sliceV.rowSl, sliceV.strSl, bounds, cutP, builtinV, lenV, maxL, maxV, appendV, St.elems, roomy, rowOf, rowS, isStr, esz, tdOf, convV, buildV, fillV, partsV, okParts, fillL, D.whole, D.demoteC, D.demote, demoteL, D.global, D.flat, D.leaf, D.cells, TI.agg, TD.rowish, callOpV, moveL, CC, keepB, St.borrowL, St.borrow, D.isLsl, adoptR, adoptC, adoptCL, adoptL, adopt, List.toArray, Array.toList, Nat.reduceEqDiff, Nat.reduceAdd, Nat.reduceSub, Nat.reduceMul, Nat.reduceLeDiff, Nat.reduceLT, reduceIte, reduceCtorEq, forall_const, imp_self, Int.reduceNeg, Int.reduceLT, Int.reduceLE, Int.reduceGT, Int.reduceGE, Int.reduceAdd, Int.reduceSub, Int.reduceMul, Int.reduceToNat, Int.reduceEq, ne_eq, eq_self]
        rfl
      rintro x st' ⟨rfl, ρ, rfl, r1, r2, r3, r4, r5, r6, r7, r8, r9, r10, r11⟩
      rw [hn] at r5
      simp only [r1, r2, r3, r4, r5, r6, r7, r8, r9, r10, r11, c3, c4, c5, ltE, AL, T3, T4, T66, T67, T68, T70, T75, EL, List.replicate_succ, stepD, accs, accP, accW, simpleOp, isAl, isExt, flipD, D.fresh1, D.row, D.plain, D.plain.plainL, St.close, St.close1, St.borrow, retV, resV, resL, outCL, outC, outL, outD, wantedV, opV, An.mid, thawV, D.plainU, prune, envOf, get, put, eval, evalT, nz, argsV, capsV, ofV, binV, binV.aggV, unV, intV, eqOp, isConst, natV, optV, loadV, loadC, storeV, St.at_, partV, partTy, indexAddrV, fieldAddrV, sliceV, sliceV.rowSl, sliceV.strSl, bounds, cutP, builtinV, lenV, maxL, maxV, appendV, St.elems, roomy, rowOf, rowS, isStr, esz, tdOf, convV, buildV, fillV, partsV, okParts, fillL, D.whole, D.demoteC, D.demote, demoteL, D.global, D.flat, D.leaf, D.cells, TI.agg, TD.rowish, callOpV, moveL, CC, keepB, St.borrowL, St.borrow, D.isLsl, adoptR, adoptC, adoptCL, adoptL, adopt, List.toArray, Array.toList, Nat.reduceEqDiff, Nat.reduceAdd, Nat.reduceSub, Nat.reduceMul, Nat.reduceLeDiff, Nat.reduceLT, reduceIte, reduceCtorEq, forall_const, imp_self, Int.reduceNeg, Int.reduceLT, Int.reduceLE, Int.reduceGT, Int.reduceGE, Int.reduceAdd, Int.reduceSub, Int.reduceMul, Int.reduceToNat, Int.reduceEq, ne_eq, eq_self]
      refine' in_loop (c' := lp8_1) (fin T _ _ _) ?hh1 rfl ?qq1
      case hh1 =>
        refine loop8_1 C B a b n l (by omega) _ ?_
        simp only [an8, ren_map, toks_map, boxes_map, st8_1, ltM, ltE, hn, r1, r2, r3, r4, r5, r6, r7, r8, r9, r10, r11, AL, An.at_, tidyV, tidyW, tidyB, tidyT, sift, envBoxes, envToks, conToks, D.toks, D.tok1, toksL, D.boxes, D.box1, boxesL, memN, posN, renE, D.ren, D.ren1, renL, renB, St.content, St.boxOk, St.tokOk, trues, T3, T4, T66, T67, T68, T70, T75, EL, List.replicate_succ, stepD, accs, accP, accW, simpleOp, isAl, isExt, flipD, D.fresh1, D.row, D.plain, D.plain.plainL, St.close, St.close1, St.borrow, retV, resV, resL, outCL, outC, outL, outD, wantedV, opV, An.mid, thawV, D.plainU, prune, envOf, get, put, eval, evalT, nz, argsV, capsV, ofV, binV, binV.aggV, unV, intV, eqOp, isConst, natV, optV, loadV, loadC, storeV, setC, St.at_, partV, partTy, indexAddrV, fieldAddrV, sliceV, sliceV.rowSl, sliceV.strSl, bounds, cutP, builtinV, lenV, maxL, maxV, appendV, St.elems, roomy, rowOf, rowS, isStr, esz, tdOf, convV, buildV, fillV, partsV, okParts, fillL, D.whole, D.demoteC, D.demote, demoteL, D.global, D.flat, D.leaf, D.cells, TI.agg, TD.rowish, callOpV, moveL, CC, keepB, St.borrowL, St.borrow, D.isLsl, adoptR, adoptC, adoptCL, adoptL, adopt, List.toArray, Array.toList, Nat.reduceEqDiff, Nat.reduceAdd, Nat.reduceSub, Nat.reduceMul, Nat.reduceLeDiff, Nat.reduceLT, reduceIte, reduceCtorEq, forall_const, imp_self, Int.reduceNeg, Int.reduceLT, Int.reduceLE, Int.reduceGT, Int.reduceGE, Int.reduceAdd, Int.reduceSub, Int.reduceMul, Int.reduceToNat, Int.reduceEq, ne_eq, eq_self]
        rfl
      rintro x st' ⟨rfl, ρ, rfl, r1, r2, r3, r4, r5, r6, r7, r8, r9, r10, r11⟩
      rw [hn] at r5
      simp only [r1, r2, r3, r4, r5, r6, r7, r8, r9, r10, r11, h0, h1, c6, c7, c8, c9, c10, c11, c12, c13, c14, c15, c16, c17, c18, q1, q2, q3, q4, q5, q6, e4, ltM, AL, T3, T4, T66, T67, T68, T70, T75, EL, List.replicate_succ, stepD, accs, accP, accW, simpleOp, isAl, isExt, flipD, D.fresh1, D.row, D.plain, D.plain.plainL, St.close, St.close1, St.borrow, retV, resV, resL, outCL, outC, outL, outD, wantedV, opV, An.mid, thawV, D.plainU, prune, envOf, get, put, eval, evalT, nz, argsV, capsV, ofV, binV, binV.aggV, unV, intV, eqOp, isConst, natV, optV, loadV, loadC, storeV, St.at_, partV, partTy, indexAddrV, fieldAddrV, sliceV, sliceV.rowSl, sliceV.strSl, bounds, cutP, builtinV, lenV, maxL, maxV, appendV, St.elems, roomy, rowOf, rowS, isStr, esz, tdOf, convV, buildV, fillV, partsV, okParts, fillL, D.whole, D.demoteC, D.demote, demoteL, D.global, D.flat, D.leaf, D.cells, TI.agg, TD.rowish, callOpV, moveL, CC, keepB, St.borrowL, St.borrow, D.isLsl, adoptR, adoptC, adoptCL, adoptL, adopt, List.toArray, Array.toList, Nat.reduceEqDiff, Nat.reduceAdd, Nat.reduceSub, Nat.reduceMul, Nat.reduceLeDiff, Nat.reduceLT, reduceIte, reduceCtorEq, forall_const, imp_self, Int.reduceNeg, Int.reduceLT, Int.reduceLE, Int.reduceGT, Int.reduceGE, Int.reduceAdd, Int.reduceSub, Int.reduceMul, Int.reduceToNat, Int.reduceEq, ne_eq, eq_self]
      done
  · have hn : mayN n = false := by
      have : ¬ 0 ≤ n := h0
      simp [mayN, this]
    have ew : wiF a n = mem a := by unfold wiF; rw [hn]; rfl
    have eo : woF a n = mem a := by unfold woF; rw [hn]; rfl
    rw [show hasS a n = false by unfold hasS; rw [hn]; rfl] at c6
    simp only [fi8, Tryd.f8, an8, c1, c2, h0, AL, T3, T4, T66, T67, T68, T70, T75, EL, List.replicate_succ, stepD, accs, accP, accW, simpleOp, isAl, isExt, flipD, D.fresh1, D.row, D.plain, D.plain.plainL, St.close, St.close1, St.borrow, retV, resV, resL, outCL, outC, outL, outD, wantedV, opV, An.mid, thawV, D.plainU, prune, envOf, get, put, eval, evalT, nz, argsV, capsV, ofV, binV, binV.aggV, unV, intV, eqOp, isConst, natV, optV, loadV, loadC, storeV, St.at_, partV, partTy, indexAddrV, fieldAddrV, sliceV, sliceV.rowSl, sliceV.strSl, bounds, cutP, builtinV, lenV, maxL, maxV, appendV, St.elems, roomy, rowOf, rowS, isStr, esz, tdOf, convV, buildV, fillV, partsV, okParts, fillL, D.whole, D.demoteC, D.demote, demoteL, D.global, D.flat, D.leaf, D.cells, TI.agg, TD.rowish, callOpV, moveL, CC, keepB, St.borrowL, St.borrow, D.isLsl, adoptR, adoptC, adoptCL, adoptL, adopt, List.toArray, Array.toList, Nat.reduceEqDiff, Nat.reduceAdd, Nat.reduceSub, Nat.reduceMul, Nat.reduceLeDiff, Nat.reduceLT, reduceIte, reduceCtorEq, forall_const, imp_self, Int.reduceNeg, Int.reduceLT, Int.reduceLE, Int.reduceGT, Int.reduceGE, Int.reduceAdd, Int.reduceSub, Int.reduceMul, Int.reduceToNat, Int.reduceEq, ne_eq, eq_self]
    refine' dyn_done (fin T _ _ _) ?hd2 ?he2
    case hd2 => kernel_rfl
    simp only [c1, c2, h0, AL, T3, T4, T66, T67, T68, T70, T75, EL, List.replicate_succ, stepD, accs, accP, accW, simpleOp, isAl, isExt, flipD, D.fresh1, D.row, D.plain, D.plain.plainL, St.close, St.close1, St.borrow, retV, resV, resL, outCL, outC, outL, outD, wantedV, opV, An.mid, thawV, D.plainU, prune, envOf, get, put, eval, evalT, nz, argsV, capsV, ofV, binV, binV.aggV, unV, intV, eqOp, isConst, natV, optV, loadV, loadC, storeV, St.at_, partV, partTy, indexAddrV, fieldAddrV, sliceV, sliceV.rowSl, sliceV.strSl, bounds, cutP, builtinV, lenV, maxL, maxV, appendV, St.elems, roomy, rowOf, rowS, isStr, esz, tdOf, convV, buildV, fillV, partsV, okParts, fillL, D.whole, D.demoteC, D.demote, demoteL, D.global, D.flat, D.leaf, D.cells, TI.agg, TD.rowish, callOpV, moveL, CC, keepB, St.borrowL, St.borrow, D.isLsl, adoptR, adoptC, adoptCL, adoptL, adopt, List.toArray, Array.toList, Nat.reduceEqDiff, Nat.reduceAdd, Nat.reduceSub, Nat.reduceMul, Nat.reduceLeDiff, Nat.reduceLT, reduceIte, reduceCtorEq, forall_const, imp_self, Int.reduceNeg, Int.reduceLT, Int.reduceLE, Int.reduceGT, Int.reduceGE, Int.reduceAdd, Int.reduceSub, Int.reduceMul, Int.reduceToNat, Int.reduceEq, ne_eq, eq_self]
    refine' in_loop (c' := lp8_0) (fin T _ _ _) ?h2 rfl ?q2
    case h2 =>
      refine loop8 C B a b n _ ?_
      simp only [an8, ren_map, toks_map, boxes_map, st8, ltL, hn, ew, eo, ← uptB_0, AL, An.at_, tidyV, tidyW, tidyB, tidyT, sift, envBoxes, envToks, conToks, D.toks, D.tok1, toksL, D.boxes, D.box1, boxesL, memN, posN, renE, D.ren, D.ren1, renL, renB, St.content, St.boxOk, St.tokOk, trues, T3, T4, T66, T67, T68, T70, T75, EL, List.replicate_succ, stepD, accs, accP, accW, simpleOp, isAl, isExt, flipD, D.fresh1, D.row, D.plain, D.plain.plainL, St.close, St.close1, St.borrow, retV, resV, resL, outCL, outC, outL, outD, wantedV, opV, An.mid, thawV, D.plainU, prune, envOf, get, put, eval, evalT, nz, argsV, capsV, ofV, binV, binV.aggV, unV, intV, eqOp, isConst, natV, optV, loadV, loadC, storeV, setC, St.at_, partV, partTy, indexAddrV, fieldAddrV, sliceV, sliceV.rowSl, sliceV.strSl, bounds, cutP, builtinV, lenV, maxL, maxV, appendV, St.elems, roomy, rowOf, rowS, isStr, esz, tdOf, convV, buildV, fillV, partsV, okParts, fillL, D.whole, D.demoteC, D.demote, demoteL, D.global, D.flat, D.leaf, D.cells, TI.agg, TD.rowish, callOpV, moveL, CC, keepB, St.borrowL, St.borrow, D.isLsl, adoptR, adoptC, adoptCL, adoptL, adopt, List.toArray, Array.toList, Nat.reduceEqDiff, Nat.reduceAdd, Nat.reduceSub, Nat.reduceMul, Nat.reduceLeDiff, Nat.reduceLT, reduceIte, reduceCtorEq, forall_const, imp_self, Int.reduceNeg, Int.reduceLT, Int.reduceLE, Int.reduceGT, Int.reduceGE, Int.reduceAdd, Int.reduceSub, Int.reduceMul, Int.reduceToNat, Int.reduceEq, ne_eq, eq_self]
      rfl
    rintro x st' ⟨rfl, ρ, rfl, r1, r2, r3, r4, r5, r6, r7, r8, r9, r10, r11⟩
    rw [hn] at r5
    simp only [r1, r2, r3, r4, r5, r6, r7, r8, r9, r10, r11, c3, c4, c5, ltE, AL, T3, T4, T66, T67, T68, T70, T75, EL, List.replicate_succ, stepD, accs, accP, accW, simpleOp, isAl, isExt, flipD, D.fresh1, D.row, D.plain, D.plain.plainL, St.close, St.close1, St.borrow, retV, resV, resL, outCL, outC, outL, outD, wantedV, opV, An.mid, thawV, D.plainU, prune, envOf, get, put, eval, evalT, nz, argsV, capsV, ofV, binV, binV.aggV, unV, intV, eqOp, isConst, natV, optV, loadV, loadC, storeV, St.at_, partV, partTy, indexAddrV, fieldAddrV, sliceV, sliceV.rowSl, sliceV.strSl, bounds, cutP, builtinV, lenV, maxL, maxV, appendV, St.elems, roomy, rowOf, rowS, isStr, esz, tdOf, convV, buildV, fillV, partsV, okParts, fillL, D.whole, D.demoteC, D.demote, demoteL, D.global, D.flat, D.leaf, D.cells, TI.agg, TD.rowish, callOpV, moveL, CC, keepB, St.borrowL, St.borrow, D.isLsl, adoptR, adoptC, adoptCL, adoptL, adopt, List.toArray, Array.toList, Nat.reduceEqDiff, Nat.reduceAdd, Nat.reduceSub, Nat.reduceMul, Nat.reduceLeDiff, Nat.reduceLT, reduceIte, reduceCtorEq, forall_const, imp_self, Int.reduceNeg, Int.reduceLT, Int.reduceLE, Int.reduceGT, Int.reduceGE, Int.reduceAdd, Int.reduceSub, Int.reduceMul, Int.reduceToNat, Int.reduceEq, ne_eq, eq_self]
    refine' in_loop (c' := lp8_1) (fin T _ _ _) ?hh2 rfl ?qq2
    case hh2 =>
      refine loop8_1 C B a b n l (by omega) _ ?_
      simp only [an8, ren_map, toks_map, boxes_map, st8_1, ltM, ltE, hn, r1, r2, r3, r4, r5, r6, r7, r8, r9, r10, r11, AL, An.at_, tidyV, tidyW, tidyB, tidyT, sift, envBoxes, envToks, conToks, D.toks, D.tok1, toksL, D.boxes, D.box1, boxesL, memN, posN, renE, D.ren, D.ren1, renL, renB, St.content, St.boxOk, St.tokOk, trues, T3, T4, T66, T67, T68, T70, T75, EL, List.replicate_succ, stepD, accs, accP, accW, simpleOp, isAl, isExt, flipD, D.fresh1, D.row, D.plain, D.plain.plainL, St.close, St.close1, St.borrow, retV, resV, resL, outCL, outC, outL, outD, wantedV, opV, An.mid, thawV, D.plainU, prune, envOf, get, put, eval, evalT, nz, argsV, capsV, ofV, binV, binV.aggV, unV, intV, eqOp, isConst, natV, optV, loadV, loadC, storeV, setC, St.at_, partV, partTy, indexAddrV, fieldAddrV, sliceV, sliceV.rowSl, sliceV.strSl, bounds, cutP, builtinV, lenV, maxL, maxV, appendV, St.elems, roomy, rowOf, rowS, isStr, esz, tdOf, convV, buildV, fillV, partsV, okParts, fillL, D.whole, D.demoteC, D.demote, demoteL, D.global, D.flat, D.leaf, D.cells, TI.agg, TD.rowish, callOpV, moveL, CC, keepB, St.borrowL, St.borrow, D.isLsl, adoptR, adoptC, adoptCL, adoptL, adopt, List.toArray, Array.toList, Nat.reduceEqDiff, Nat.reduceAdd, Nat.reduceSub, Nat.reduceMul, Nat.reduceLeDiff, Nat.reduceLT, reduceIte, reduceCtorEq, forall_const, imp_self, Int.reduceNeg, Int.reduceLT, Int.reduceLE, Int.reduceGT, Int.reduceGE, Int.reduceAdd, Int.reduceSub, Int.reduceMul, Int.reduceToNat, Int.reduceEq, ne_eq, eq_self]
      rfl
    rintro x st' ⟨rfl, ρ, rfl, r1, r2, r3, r4, r5, r6, r7, r8, r9, r10, r11⟩
    rw [hn] at r5
    simp only [r1, r2, r3, r4, r5, r6, r7, r8, r9, r10, r11, h0, c6, c7, c8, c9, c10, c11, c12, c13, c14, c15, c16, c17, c18, q1, q2, q3, q4, q5, q6, e4, ltM, AL, T3, T4, T66, T67, T68, T70, T75, EL, List.replicate_succ, stepD, accs, accP, accW, simpleOp, isAl, isExt, flipD, D.fresh1, D.row, D.plain, D.plain.plainL, St.close, St.close1, St.borrow, retV, resV, resL, outCL, outC, outL, outD, wantedV, opV, An.mid, thawV, D.plainU, prune, envOf, get, put, eval, evalT, nz, argsV, capsV, ofV, binV, binV.aggV, unV, intV, eqOp, isConst, natV, optV, loadV, loadC, storeV, St.at_, partV, partTy, indexAddrV, fieldAddrV, sliceV, sliceV.rowSl, sliceV.strSl, bounds, cutP, builtinV, lenV, maxL, maxV, appendV, St.elems, roomy, rowOf, rowS, isStr, esz, tdOf, convV, buildV, fillV, partsV, okParts, fillL, D.whole, D.demoteC, D.demote, demoteL, D.global, D.flat, D.leaf, D.cells, TI.agg, TD.rowish, callOpV, moveL, CC, keepB, St.borrowL, St.borrow, D.isLsl, adoptR, adoptC, adoptCL, adoptL, adopt, List.toArray, Array.toList, Nat.reduceEqDiff, Nat.reduceAdd, Nat.reduceSub, Nat.reduceMul, Nat.reduceLeDiff, Nat.reduceLT, reduceIte, reduceCtorEq, forall_const, imp_self, Int.reduceNeg, Int.reduceLT, Int.reduceLE, Int.reduceGT, Int.reduceGE, Int.reduceAdd, Int.reduceSub, Int.reduceMul, Int.reduceToNat, Int.reduceEq, ne_eq, eq_self]
    done

end Go.Proofs.YtbbbhalmlboapaaDoor.V
