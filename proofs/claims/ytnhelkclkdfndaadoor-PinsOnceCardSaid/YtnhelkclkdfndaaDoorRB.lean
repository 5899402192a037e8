/-
Layer 18: a reader's place.
-/
import Derived.Test.YtnhelkclkdfndaaDoorRA
namespace Go.Proofs.YtnhelkclkdfndaaDoor.V
open Go Go.RowKit
set_option linter.unusedSimpArgs false
set_option linter.unusedVariables false

/-! slices.BinarySearchFunc[[]warren/pins.Pin,warren/pins.Pin,uint64] -/
def an127 : An := ⟨fun | 3 => some [0, 1, 2, 8, 9, 10] | _ => .none, fun _ => 0, fun _ => false, fun _ => .none⟩
noncomputable def fi127 : FI := ⟨3, 49, Tryd.f127.body.getD .skip, Tryd.f127.results.toList, an127, false, false, false⟩
theorem ok127 : FnOk Tryd.prog 127 fi127 := ⟨⟨Tryd.f127, Tryd.func127, by kernel_rfl, rfl, rfl, rfl⟩, by decide, by kernel_rfl, fun h => by cases h⟩
noncomputable def lp127_0 : Code := subC [1, 1, 1, 0, 0, 0] (Tryd.f127.body.getD .skip)   -- head 3 keep [0, 1, 2, 8, 9, 10]
/-! warren/pins.at -/
def an79 : An := ⟨fun _ => .none, fun _ => 0, fun _ => false, fun _ => .none⟩
noncomputable def fi79 : FI := ⟨2, 25, Tryd.f79.body.getD .skip, Tryd.f79.results.toList, an79, false, false, false⟩
theorem ok79 : FnOk Tryd.prog 79 fi79 := ⟨⟨Tryd.f79, Tryd.func79, by kernel_rfl, rfl, rfl, rfl⟩, by decide, by kernel_rfl, fun h => by cases h⟩
/-! warren/pins.Get -/
def an20 : An := ⟨fun _ => .none, fun _ => 0, fun _ => false, fun _ => .none⟩
noncomputable def fi20 : FI := ⟨2, 23, Tryd.f20.body.getD .skip, Tryd.f20.results.toList, an20, false, false, false⟩
theorem ok20 : FnOk Tryd.prog 20 fi20 := ⟨⟨Tryd.f20, Tryd.func20, by kernel_rfl, rfl, rfl, rfl⟩, by decide, by kernel_rfl, fun h => by cases h⟩
structure Lib18B (C : Callees) : Prop extends Lib18A C where
  f127 : Has T C 127 fi127
  f79 : Has T C 79 fi79
  f20 : Has T C 20 fi20

variable {C : Callees}

theorem shr_half18 (n : Nat) (h : n < 9223372036854775808) : IntKind.i64.wrap (shrV .u64 (IntKind.u64.wrap (n : Int)) 1) = ((n / 2 : Nat) : Int) := by
  rw [wrap_u64 (by omega) (by omega)]
  have := shr_nat .u64 n 1 (by decide)
  rw [show ((1 : Nat) : Int) = 1 from rfl] at this
  rw [this, wrapI (by omega) (by omega)]

def idP (l : List Pn) (i : Nat) : Nat := (l.getD i default).id
def SortP (l : List Pn) : Prop := ∀ i j, i < j → j < l.length → idP l i < idP l j
theorem may_sort {n : Nat} {l : List Pn} (h : mayP n l = true) : SortP l ∧ l.length ≤ 8 ∧ n ≤ 4611686018427387904 ∧ ∀ i, i < l.length → 1 ≤ idP l i ∧ idP l i ≤ n := by
  unfold mayP at h
  simp only [Bool.and_eq_true, decide_eq_true_eq] at h
  obtain ⟨⟨h1, h2⟩, h3⟩ := h
  rw [allB_iff] at h3
  have hs : ∀ i, i + 1 < l.length → idP l i < idP l (i + 1) := fun i hi => by
    have := h3 (i + 1) hi
    unfold atP ahP at this
    rw [if_neg (by omega)] at this
    simp only [Bool.and_eq_true, decide_eq_true_eq] at this
    exact this.1
  have hs2 : SortP l := fun i j hij hj => by
    induction j with
    | zero => omega
    | succ j ih =>
      rcases Nat.lt_or_ge i j with h | h
      · exact Nat.lt_trans (ih h (by omega)) (hs j hj)
      · obtain rfl : i = j := by omega
        exact hs i hj
  refine ⟨hs2, h2, h1, fun i hi => ?_⟩
  have := h3 i hi
  unfold atP at this
  simp only [Bool.and_eq_true, decide_eq_true_eq] at this
  exact ⟨by unfold idP; omega, this.2⟩

def st127 (B : Hp) (l : List Pn) (key : Nat) (x : Nat × Nat) : St := ⟨[(0, pnR l .none), (1, .int .u64 (key : Nat)), (2, .fn 128 []), (8, .int .i64 l.length), (9, .int .i64 (x.1 : Nat)), (10, .int .i64 (x.2 : Nat))], [], [], B⟩

set_option maxRecDepth 10000 in
set_option maxHeartbeats 1000000 in
theorem loop127 (hC : Lib18B C) (B : Hp) (l : List Pn) (key : Nat) (hl : l.length ≤ 100000) (hs : SortP l) (st : St) (hst : an127.at_ (some 3) st = st127 B l key (0, l.length)) :
    ∃ x st', loopC T an127 C lp127_0 st = some (x, st') ∧ x = .exit 0 ∧ ∃ ρ i, st' = ⟨ρ, [], [], B⟩ ∧ i ≤ l.length ∧ (∀ a, a < i → idP l a < key) ∧ (∀ a, i ≤ a → a < l.length → ¬ idP l a < key) ∧ get ρ 0 = pnR l .none ∧ get ρ 1 = .int .u64 (key : Nat) ∧ get ρ 2 = .fn 128 [] ∧ get ρ 8 = .int .i64 l.length ∧ get ρ 9 = .int .i64 (i : Nat) := by
  refine loop_rule (st127 B l key) (fun x => x.1 ≤ x.2 ∧ x.2 ≤ l.length ∧ (∀ a, a < x.1 → idP l a < key) ∧ (∀ a, x.2 ≤ a → a < l.length → ¬ idP l a < key)) (fun x => x.2 - x.1) _ ?_ (0, l.length) st hst ⟨Nat.zero_le _, Nat.le_refl _, fun a h => by simp at h, fun a h1 h2 => by simp at h1; omega⟩
  rintro ⟨i, j⟩ ⟨h1, h2, h3, h4⟩
  simp only at h1 h2 h3 h4
  simp only [st127]
  rcases Nat.lt_or_ge i j with h | h
  · left
    have g0 : (i : Int) < j := by omega
    have w1 : IntKind.i64.wrap ((i : Int) + (j : Int)) = ((i + j : Nat) : Int) := by rw [wrapI (by omega) (by omega)]; omega
    have w0 : IntKind.u64.wrap ((i + j : Nat) : Int) = ((i + j : Nat) : Int) := wrap_u64 (by omega) (by omega)
    have w2 := shr_half18 (i + j) (by omega)
    rw [w0] at w2
    have w3 : IntKind.i64.wrap ((((i + j) / 2 : Nat) : Int) + 1) = (((i + j) / 2 + 1 : Nat) : Int) := by rw [wrapI (by omega) (by omega)]; rfl
    have hm : (i + j) / 2 < j := by omega
    have hm2 : i ≤ (i + j) / 2 := by omega
    generalize (i + j) / 2 = m at w2 w3 hm hm2
    have g1 := pnat m
    have e1 := pn_get (l := l) (i := m) (by omega)
    have c1 := c128 hC.toLib18A (l.getD m default) key
    unfold cmpN at c1
    by_cases hlt : idP l m < key
    · rw [if_pos (show ((l.getD m default).id : Int) < (key : Int) by unfold idP at hlt; omega)] at c1
      refine ⟨(m + 1, j), ?_, ⟨by show m + 1 ≤ j; omega, h2, fun a ha => ?_, h4⟩, by show j - (m + 1) < j - i; omega⟩
      · have g2 : (-1 : Int) < 0 := by decide
        simp only [st127, lp127_0, subC, atC, Tryd.f127, an127, g0, g1, g2, w0, w1, w2, w3, e1, c1, Int.toNat_natCast, AL, T3, T22, T28, T42, T44, T87, EL, e_finWf, e_finWt, e_finMN, e_finMX, retM, meltV, tupV, D.asBox, D.row1, D.freeR, D.freeO, List.replicate_succ, stepD, accs, accP, accW, simpleOp, isAl, isExt, flipD, D.fresh1, D.row, D.plain, D.plain.plainL, St.close, St.close1, St.borrow, retV, resV, resL, outCL, outC, outL, outD, wantedV, opV, An.mid, thawV, St.settle, D.plainU, prune, envOf, get, put, eval, evalT, nz, argsV, capsV, ofV, binV, binV.aggV, unV, intV, eqOp, isConst, natV, optV, loadV, loadC, storeV, setC, St.at_, partV, partTy, indexAddrV, fieldAddrV, sliceV, sliceV.rowSl, sliceV.strSl, bounds, cutP, builtinV, lenV, maxL, maxV, appendV, St.elems, roomy, rowOf, rowS, isStr, esz, tdOf, convV, buildV, fillV, partsV, okParts, fillL, D.whole, D.demoteC, D.demote, demoteL, D.global, D.flat, D.leaf, D.cells, TI.agg, TD.rowish, callOpV, moveL, CC, keepB, St.borrowL, St.borrow, D.isLsl, adoptR, adoptC, adoptCL, adoptL, adopt, List.toArray, Array.toList, Nat.reduceEqDiff, Nat.reduceAdd, Nat.reduceSub, Nat.reduceMul, Nat.reduceLeDiff, Nat.reduceLT, reduceIte, reduceCtorEq, forall_const, imp_self, Int.reduceNeg, Int.reduceLT, Int.reduceLE, Int.reduceGT, Int.reduceGE, Int.reduceAdd, Int.reduceSub, Int.reduceMul, Int.reduceToNat, Int.reduceEq, ne_eq, eq_self]
        exact ⟨_, rfl, rfl⟩
      · have ha : a < m + 1 := ha
        rcases Nat.lt_or_ge a m with hh | hh
        · exact Nat.lt_trans (hs a m hh (by omega)) hlt
        · obtain rfl : a = m := by omega
          exact hlt
    · rw [if_neg (show ¬ ((l.getD m default).id : Int) < (key : Int) by unfold idP at hlt; omega)] at c1
      refine ⟨(i, m), ?_, ⟨hm2, by show m ≤ _; omega, h3, fun a ha hb => ?_⟩, by show m - i < j - i; omega⟩
      · have g2 : ¬ (if ((l.getD m default).id : Int) > (key : Int) then (1 : Int) else 0) < 0 := by split <;> decide
        generalize (if ((l.getD m default).id : Int) > (key : Int) then (1 : Int) else 0) = r at c1 g2
        simp only [st127, lp127_0, subC, atC, Tryd.f127, an127, g0, g1, g2, w0, w1, w2, w3, e1, c1, Int.toNat_natCast, AL, T3, T22, T28, T42, T44, T87, EL, e_finWf, e_finWt, e_finMN, e_finMX, retM, meltV, tupV, D.asBox, D.row1, D.freeR, D.freeO, List.replicate_succ, stepD, accs, accP, accW, simpleOp, isAl, isExt, flipD, D.fresh1, D.row, D.plain, D.plain.plainL, St.close, St.close1, St.borrow, retV, resV, resL, outCL, outC, outL, outD, wantedV, opV, An.mid, thawV, St.settle, D.plainU, prune, envOf, get, put, eval, evalT, nz, argsV, capsV, ofV, binV, binV.aggV, unV, intV, eqOp, isConst, natV, optV, loadV, loadC, storeV, setC, St.at_, partV, partTy, indexAddrV, fieldAddrV, sliceV, sliceV.rowSl, sliceV.strSl, bounds, cutP, builtinV, lenV, maxL, maxV, appendV, St.elems, roomy, rowOf, rowS, isStr, esz, tdOf, convV, buildV, fillV, partsV, okParts, fillL, D.whole, D.demoteC, D.demote, demoteL, D.global, D.flat, D.leaf, D.cells, TI.agg, TD.rowish, callOpV, moveL, CC, keepB, St.borrowL, St.borrow, D.isLsl, adoptR, adoptC, adoptCL, adoptL, adopt, List.toArray, Array.toList, Nat.reduceEqDiff, Nat.reduceAdd, Nat.reduceSub, Nat.reduceMul, Nat.reduceLeDiff, Nat.reduceLT, reduceIte, reduceCtorEq, forall_const, imp_self, Int.reduceNeg, Int.reduceLT, Int.reduceLE, Int.reduceGT, Int.reduceGE, Int.reduceAdd, Int.reduceSub, Int.reduceMul, Int.reduceToNat, Int.reduceEq, ne_eq, eq_self]
        exact ⟨_, rfl, rfl⟩
      · have ha : m ≤ a := ha
        rcases Nat.lt_or_ge m a with hh | hh
        · have := hs m a hh (by omega); omega
        · obtain rfl : a = m := by omega
          exact hlt
  · right
    obtain rfl : i = j := by omega
    have g0 : ¬ (i : Int) < i := by omega
    simp only [st127, lp127_0, subC, atC, Tryd.f127, an127, g0, T3, T22, T28, T42, T44, T87, EL, e_finWf, e_finWt, e_finMN, e_finMX, retM, meltV, tupV, D.asBox, D.row1, D.freeR, D.freeO, List.replicate_succ, stepD, accs, accP, accW, simpleOp, isAl, isExt, flipD, D.fresh1, D.row, D.plain, D.plain.plainL, St.close, St.close1, St.borrow, retV, resV, resL, outCL, outC, outL, outD, wantedV, opV, An.mid, thawV, St.settle, D.plainU, prune, envOf, get, put, eval, evalT, nz, argsV, capsV, ofV, binV, binV.aggV, unV, intV, eqOp, isConst, natV, optV, loadV, loadC, storeV, setC, St.at_, partV, partTy, indexAddrV, fieldAddrV, sliceV, sliceV.rowSl, sliceV.strSl, bounds, cutP, builtinV, lenV, maxL, maxV, appendV, St.elems, roomy, rowOf, rowS, isStr, esz, tdOf, convV, buildV, fillV, partsV, okParts, fillL, D.whole, D.demoteC, D.demote, demoteL, D.global, D.flat, D.leaf, D.cells, TI.agg, TD.rowish, callOpV, moveL, CC, keepB, St.borrowL, St.borrow, D.isLsl, adoptR, adoptC, adoptCL, adoptL, adopt, List.toArray, Array.toList, Nat.reduceEqDiff, Nat.reduceAdd, Nat.reduceSub, Nat.reduceMul, Nat.reduceLeDiff, Nat.reduceLT, reduceIte, reduceCtorEq, forall_const, imp_self, Int.reduceNeg, Int.reduceLT, Int.reduceLE, Int.reduceGT, Int.reduceGE, Int.reduceAdd, Int.reduceSub, Int.reduceMul, Int.reduceToNat, Int.reduceEq, ne_eq, eq_self]
    exact ⟨_, _, rfl, by simp, rfl, _, _, rfl, h2, h3, h4, rfl, rfl, rfl, rfl, rfl⟩

set_option maxRecDepth 10000 in
theorem run127 (hC : Lib18B C) (l : List Pn) (key : Nat) (hl : l.length ≤ 100000) (hs : SortP l) (B : Hp) : ∃ i, i ≤ l.length ∧ (∀ a, a < i → idP l a < key) ∧ (∀ a, i ≤ a → a < l.length → ¬ idP l a < key) ∧
    runV T C fi127 [pnR l .none, .int .u64 (key : Nat), .fn 128 []] B = some (.tuple [.int .i64 (i : Nat), .bool (decide (i < l.length) && decide (idP l i = key))], B) := by
  simp only [e_run _ _ _ (show [pnR l .none, .int .u64 (key : Nat), .fn 128 []].length = fi127.np from rfl)]
  have lp := loop127 hC B l key hl hs
  simp only [fi127, Tryd.f127, an127, T3, T22, T28, T42, T44, T87, EL, e_finWf, e_finWt, e_finMN, e_finMX, retM, meltV, tupV, D.asBox, D.row1, D.freeR, D.freeO, List.replicate_succ, stepD, accs, accP, accW, simpleOp, isAl, isExt, flipD, D.fresh1, D.row, D.plain, D.plain.plainL, St.close, St.close1, St.borrow, retV, resV, resL, outCL, outC, outL, outD, wantedV, opV, An.mid, thawV, St.settle, D.plainU, prune, envOf, get, put, eval, evalT, nz, argsV, capsV, ofV, binV, binV.aggV, unV, intV, eqOp, isConst, natV, optV, loadV, loadC, storeV, setC, St.at_, partV, partTy, indexAddrV, fieldAddrV, sliceV, sliceV.rowSl, sliceV.strSl, bounds, cutP, builtinV, lenV, maxL, maxV, appendV, St.elems, roomy, rowOf, rowS, isStr, esz, tdOf, convV, buildV, fillV, partsV, okParts, fillL, D.whole, D.demoteC, D.demote, demoteL, D.global, D.flat, D.leaf, D.cells, TI.agg, TD.rowish, callOpV, moveL, CC, keepB, St.borrowL, St.borrow, D.isLsl, adoptR, adoptC, adoptCL, adoptL, adopt, List.toArray, Array.toList, Nat.reduceEqDiff, Nat.reduceAdd, Nat.reduceSub, Nat.reduceMul, Nat.reduceLeDiff, Nat.reduceLT, reduceIte, reduceCtorEq, forall_const, imp_self, Int.reduceNeg, Int.reduceLT, Int.reduceLE, Int.reduceGT, Int.reduceGE, Int.reduceAdd, Int.reduceSub, Int.reduceMul, Int.reduceToNat, Int.reduceEq, ne_eq, eq_self]
  refine in_loopP (fun r => ∃ i, i ≤ l.length ∧ (∀ a, a < i → idP l a < key) ∧ (∀ a, i ≤ a → a < l.length → ¬ idP l a < key) ∧ fin T [ResultVar.tmp 6, ResultVar.tmp 7] false B r = some (.tuple [.int .i64 (i : Nat), .bool (decide (i < l.length) && decide (idP l i = key))], B)) (c' := lp127_0) (lp _ ?h) rfl ?q
  case h =>
    simp only [an127, ren_map, toks_map, boxes_map, st127, pz0, An.at_, tidyV, tidyW, tidyB, tidyT, sift, envBoxes, envToks, conToks, D.toks, D.tok1, toksL, D.boxes, D.box1, boxesL, memN, posN, renE, D.ren, D.ren1, renL, renB, St.content, St.boxOk, St.tokOk, trues, T3, T22, T28, T42, T44, T87, EL, e_finWf, e_finWt, e_finMN, e_finMX, retM, meltV, tupV, D.asBox, D.row1, D.freeR, D.freeO, List.replicate_succ, stepD, accs, accP, accW, simpleOp, isAl, isExt, flipD, D.fresh1, D.row, D.plain, D.plain.plainL, St.close, St.close1, St.borrow, retV, resV, resL, outCL, outC, outL, outD, wantedV, opV, An.mid, thawV, St.settle, D.plainU, prune, envOf, get, put, eval, evalT, nz, argsV, capsV, ofV, binV, binV.aggV, unV, intV, eqOp, isConst, natV, optV, loadV, loadC, storeV, setC, St.at_, partV, partTy, indexAddrV, fieldAddrV, sliceV, sliceV.rowSl, sliceV.strSl, bounds, cutP, builtinV, lenV, maxL, maxV, appendV, St.elems, roomy, rowOf, rowS, isStr, esz, tdOf, convV, buildV, fillV, partsV, okParts, fillL, D.whole, D.demoteC, D.demote, demoteL, D.global, D.flat, D.leaf, D.cells, TI.agg, TD.rowish, callOpV, moveL, CC, keepB, St.borrowL, St.borrow, D.isLsl, adoptR, adoptC, adoptCL, adoptL, adopt, List.toArray, Array.toList, Nat.reduceEqDiff, Nat.reduceAdd, Nat.reduceSub, Nat.reduceMul, Nat.reduceLeDiff, Nat.reduceLT, reduceIte, reduceCtorEq, forall_const, imp_self, Int.reduceNeg, Int.reduceLT, Int.reduceLE, Int.reduceGT, Int.reduceGE, Int.reduceAdd, Int.reduceSub, Int.reduceMul, Int.reduceToNat, Int.reduceEq, ne_eq, eq_self]
    all_goals rfl
  rintro x st' ⟨rfl, ρ, i, rfl, h1, h2, h3, r0, r1, r2, r8, r9⟩
  refine ⟨i, h1, h2, h3, ?_⟩
  have g1 := pnat i
  rcases Nat.lt_or_ge i l.length with h | h
  · have g0 : (i : Int) < l.length := by omega
    have e1 := pn_get h
    have c1 := c128 hC.toLib18A (l.getD i default) key
    have h3i := h3 i (Nat.le_refl _) h
    unfold cmpN at c1
    rw [if_neg (show ¬ ((l.getD i default).id : Int) < (key : Int) by unfold idP at h3i; omega)] at c1
    rw [decide_eq_true h, Bool.true_and]
    by_cases h4 : ((l.getD i default).id : Int) > (key : Int)
    · rw [if_pos h4] at c1
      rw [decide_eq_false (show ¬ idP l i = key by unfold idP; omega)]
      simp only [r0, r1, r2, r8, r9, g0, g1, e1, c1, Int.toNat_natCast, AL, T3, T22, T28, T42, T44, T87, EL, e_finWf, e_finWt, e_finMN, e_finMX, retM, meltV, tupV, D.asBox, D.row1, D.freeR, D.freeO, List.replicate_succ, stepD, accs, accP, accW, simpleOp, isAl, isExt, flipD, D.fresh1, D.row, D.plain, D.plain.plainL, St.close, St.close1, St.borrow, retV, resV, resL, outCL, outC, outL, outD, wantedV, opV, An.mid, thawV, St.settle, D.plainU, prune, envOf, get, put, eval, evalT, nz, argsV, capsV, ofV, binV, binV.aggV, unV, intV, eqOp, isConst, natV, optV, loadV, loadC, storeV, setC, St.at_, partV, partTy, indexAddrV, fieldAddrV, sliceV, sliceV.rowSl, sliceV.strSl, bounds, cutP, builtinV, lenV, maxL, maxV, appendV, St.elems, roomy, rowOf, rowS, isStr, esz, tdOf, convV, buildV, fillV, partsV, okParts, fillL, D.whole, D.demoteC, D.demote, demoteL, D.global, D.flat, D.leaf, D.cells, TI.agg, TD.rowish, callOpV, moveL, CC, keepB, St.borrowL, St.borrow, D.isLsl, adoptR, adoptC, adoptCL, adoptL, adopt, List.toArray, Array.toList, Nat.reduceEqDiff, Nat.reduceAdd, Nat.reduceSub, Nat.reduceMul, Nat.reduceLeDiff, Nat.reduceLT, reduceIte, reduceCtorEq, forall_const, imp_self, Int.reduceNeg, Int.reduceLT, Int.reduceLE, Int.reduceGT, Int.reduceGE, Int.reduceAdd, Int.reduceSub, Int.reduceMul, Int.reduceToNat, Int.reduceEq, ne_eq, eq_self]
    · rw [if_neg h4] at c1
      rw [decide_eq_true (show idP l i = key by unfold idP at h3i ⊢; omega)]
      simp only [r0, r1, r2, r8, r9, g0, g1, e1, c1, Int.toNat_natCast, AL, T3, T22, T28, T42, T44, T87, EL, e_finWf, e_finWt, e_finMN, e_finMX, retM, meltV, tupV, D.asBox, D.row1, D.freeR, D.freeO, List.replicate_succ, stepD, accs, accP, accW, simpleOp, isAl, isExt, flipD, D.fresh1, D.row, D.plain, D.plain.plainL, St.close, St.close1, St.borrow, retV, resV, resL, outCL, outC, outL, outD, wantedV, opV, An.mid, thawV, St.settle, D.plainU, prune, envOf, get, put, eval, evalT, nz, argsV, capsV, ofV, binV, binV.aggV, unV, intV, eqOp, isConst, natV, optV, loadV, loadC, storeV, setC, St.at_, partV, partTy, indexAddrV, fieldAddrV, sliceV, sliceV.rowSl, sliceV.strSl, bounds, cutP, builtinV, lenV, maxL, maxV, appendV, St.elems, roomy, rowOf, rowS, isStr, esz, tdOf, convV, buildV, fillV, partsV, okParts, fillL, D.whole, D.demoteC, D.demote, demoteL, D.global, D.flat, D.leaf, D.cells, TI.agg, TD.rowish, callOpV, moveL, CC, keepB, St.borrowL, St.borrow, D.isLsl, adoptR, adoptC, adoptCL, adoptL, adopt, List.toArray, Array.toList, Nat.reduceEqDiff, Nat.reduceAdd, Nat.reduceSub, Nat.reduceMul, Nat.reduceLeDiff, Nat.reduceLT, reduceIte, reduceCtorEq, forall_const, imp_self, Int.reduceNeg, Int.reduceLT, Int.reduceLE, Int.reduceGT, Int.reduceGE, Int.reduceAdd, Int.reduceSub, Int.reduceMul, Int.reduceToNat, Int.reduceEq, ne_eq, eq_self]
  · have g0 : ¬ (i : Int) < l.length := by omega
    rw [decide_eq_false (by omega), Bool.false_and]
    simp only [r0, r1, r2, r8, r9, g0, g1, Int.toNat_natCast, T3, T22, T28, T42, T44, T87, EL, e_finWf, e_finWt, e_finMN, e_finMX, retM, meltV, tupV, D.asBox, D.row1, D.freeR, D.freeO, List.replicate_succ, stepD, accs, accP, accW, simpleOp, isAl, isExt, flipD, D.fresh1, D.row, D.plain, D.plain.plainL, St.close, St.close1, St.borrow, retV, resV, resL, outCL, outC, outL, outD, wantedV, opV, An.mid, thawV, St.settle, D.plainU, prune, envOf, get, put, eval, evalT, nz, argsV, capsV, ofV, binV, binV.aggV, unV, intV, eqOp, isConst, natV, optV, loadV, loadC, storeV, setC, St.at_, partV, partTy, indexAddrV, fieldAddrV, sliceV, sliceV.rowSl, sliceV.strSl, bounds, cutP, builtinV, lenV, maxL, maxV, appendV, St.elems, roomy, rowOf, rowS, isStr, esz, tdOf, convV, buildV, fillV, partsV, okParts, fillL, D.whole, D.demoteC, D.demote, demoteL, D.global, D.flat, D.leaf, D.cells, TI.agg, TD.rowish, callOpV, moveL, CC, keepB, St.borrowL, St.borrow, D.isLsl, adoptR, adoptC, adoptCL, adoptL, adopt, List.toArray, Array.toList, Nat.reduceEqDiff, Nat.reduceAdd, Nat.reduceSub, Nat.reduceMul, Nat.reduceLeDiff, Nat.reduceLT, reduceIte, reduceCtorEq, forall_const, imp_self, Int.reduceNeg, Int.reduceLT, Int.reduceLE, Int.reduceGT, Int.reduceGE, Int.reduceAdd, Int.reduceSub, Int.reduceMul, Int.reduceToNat, Int.reduceEq, ne_eq, eq_self]

/-- Is one there? -/
def isP (l : List Pn) (key i : Nat) : Prop := i < l.length ∧ idP l i = key
theorem c127_hit (hC : Lib18B C) {l : List Pn} {key i : Nat} (hl : l.length ≤ 100000) (hs : SortP l) (h : isP l key i) (B : Hp) : C 127 [.vec 18 (l.map pnD) .none, .int .u64 (key : Nat), .fn 128 []] B = some (.tuple [.int .i64 (i : Nat), .bool true], B) := by
  obtain ⟨j, h1, h2, h3, h4⟩ := run127 hC l key hl hs B
  have : j = i := by
    obtain ⟨g1, g2⟩ := h
    rcases Nat.lt_trichotomy j i with hh | hh | hh
    · have := hs j i hh g1
      have := h3 j (Nat.le_refl _) (by omega)
      omega
    · exact hh
    · have := h2 i hh; omega
  subst this
  rw [decide_eq_true h.1, decide_eq_true h.2] at h4
  exact hC.f127 _ _ _ h4
theorem c127_miss (hC : Lib18B C) {l : List Pn} {key : Nat} (hl : l.length ≤ 100000) (hs : SortP l) (h : ∀ i, ¬ isP l key i) (B : Hp) : ∃ j : Nat, C 127 [.vec 18 (l.map pnD) .none, .int .u64 (key : Nat), .fn 128 []] B = some (.tuple [.int .i64 (j : Nat), .bool false], B) := by
  obtain ⟨j, h1, h2, h3, h4⟩ := run127 hC l key hl hs B
  have : (decide (j < l.length) && decide (idP l j = key)) = false := by
    rw [Bool.and_eq_false_iff]
    rcases Nat.lt_or_ge j l.length with hh | hh
    · right; exact decide_eq_false (fun e => h j ⟨hh, e⟩)
    · left; exact decide_eq_false (by omega)
  rw [this] at h4
  exact ⟨j, hC.f127 _ _ _ h4⟩

set_option maxRecDepth 10000 in
theorem run79_bad (hC : Lib18B C) (n : Nat) (l : List Pn) (hl : l.length ≤ 9223372036854775807) (h : mayP n l = false) (id : Nat) (B : Hp) : runV T C fi79 [psD n l, .int .u64 (id : Nat)] B = some (.tuple [.int .i64 0, errD 1], B) := by
  rw [e_run _ _ _ rfl]
  have c1 := c28 hC.toLib18A n l hl
  rw [h, if_neg (by decide)] at c1
  rw [errD_pos (by decide)] at c1 ⊢
  simp only [fi79, Tryd.f79, an79, c1, T4, T22, T28, T30, T33, T42, T44, T163, EL, e_finWf, e_finWt, e_finMN, e_finMX, retM, meltV, tupV, D.asBox, D.row1, D.freeR, D.freeO, List.replicate_succ, stepD, accs, accP, accW, simpleOp, isAl, isExt, flipD, D.fresh1, D.row, D.plain, D.plain.plainL, St.close, St.close1, St.borrow, retV, resV, resL, outCL, outC, outL, outD, wantedV, opV, An.mid, thawV, St.settle, D.plainU, prune, envOf, get, put, eval, evalT, nz, argsV, capsV, ofV, binV, binV.aggV, unV, intV, eqOp, isConst, natV, optV, loadV, loadC, storeV, setC, St.at_, partV, partTy, indexAddrV, fieldAddrV, sliceV, sliceV.rowSl, sliceV.strSl, bounds, cutP, builtinV, lenV, maxL, maxV, appendV, St.elems, roomy, rowOf, rowS, isStr, esz, tdOf, convV, buildV, fillV, partsV, okParts, fillL, D.whole, D.demoteC, D.demote, demoteL, D.global, D.flat, D.leaf, D.cells, TI.agg, TD.rowish, callOpV, moveL, CC, keepB, St.borrowL, St.borrow, D.isLsl, adoptR, adoptC, adoptCL, adoptL, adopt, List.toArray, Array.toList, Nat.reduceEqDiff, Nat.reduceAdd, Nat.reduceSub, Nat.reduceMul, Nat.reduceLeDiff, Nat.reduceLT, reduceIte, reduceCtorEq, forall_const, imp_self, Int.reduceNeg, Int.reduceLT, Int.reduceLE, Int.reduceGT, Int.reduceGE, Int.reduceAdd, Int.reduceSub, Int.reduceMul, Int.reduceToNat, Int.reduceEq, ne_eq, eq_self]
set_option maxRecDepth 10000 in
theorem run79_hit (hC : Lib18B C) (n : Nat) (l : List Pn) (h : mayP n l = true) {id i : Nat} (hi : isP l id i) (B : Hp) : runV T C fi79 [psD n l, .int .u64 (id : Nat)] B = some (.tuple [.int .i64 (i : Nat), .nili], B) := by
  rw [e_run _ _ _ rfl]
  obtain ⟨hs, h8, _, _⟩ := may_sort h
  have c1 := c28 hC.toLib18A n l (by omega)
  rw [h, if_pos rfl, errD_zero] at c1
  have c2 := c127_hit hC (by omega) hs hi
  simp only [fi79, Tryd.f79, an79, c1, c2, T4, T22, T28, T30, T33, T42, T44, T163, EL, e_finWf, e_finWt, e_finMN, e_finMX, retM, meltV, tupV, D.asBox, D.row1, D.freeR, D.freeO, List.replicate_succ, stepD, accs, accP, accW, simpleOp, isAl, isExt, flipD, D.fresh1, D.row, D.plain, D.plain.plainL, St.close, St.close1, St.borrow, retV, resV, resL, outCL, outC, outL, outD, wantedV, opV, An.mid, thawV, St.settle, D.plainU, prune, envOf, get, put, eval, evalT, nz, argsV, capsV, ofV, binV, binV.aggV, unV, intV, eqOp, isConst, natV, optV, loadV, loadC, storeV, setC, St.at_, partV, partTy, indexAddrV, fieldAddrV, sliceV, sliceV.rowSl, sliceV.strSl, bounds, cutP, builtinV, lenV, maxL, maxV, appendV, St.elems, roomy, rowOf, rowS, isStr, esz, tdOf, convV, buildV, fillV, partsV, okParts, fillL, D.whole, D.demoteC, D.demote, demoteL, D.global, D.flat, D.leaf, D.cells, TI.agg, TD.rowish, callOpV, moveL, CC, keepB, St.borrowL, St.borrow, D.isLsl, adoptR, adoptC, adoptCL, adoptL, adopt, List.toArray, Array.toList, Nat.reduceEqDiff, Nat.reduceAdd, Nat.reduceSub, Nat.reduceMul, Nat.reduceLeDiff, Nat.reduceLT, reduceIte, reduceCtorEq, forall_const, imp_self, Int.reduceNeg, Int.reduceLT, Int.reduceLE, Int.reduceGT, Int.reduceGE, Int.reduceAdd, Int.reduceSub, Int.reduceMul, Int.reduceToNat, Int.reduceEq, ne_eq, eq_self]
set_option maxRecDepth 10000 in
theorem run79_miss (hC : Lib18B C) (n : Nat) (l : List Pn) (h : mayP n l = true) {id : Nat} (hi : ∀ i, ¬ isP l id i) (B : Hp) : runV T C fi79 [psD n l, .int .u64 (id : Nat)] B = some (.tuple [.int .i64 0, errD 6], B) := by
  rw [e_run _ _ _ rfl]
  obtain ⟨hs, h8, _, _⟩ := may_sort h
  have c1 := c28 hC.toLib18A n l (by omega)
  rw [h, if_pos rfl, errD_zero] at c1
  rw [errD_pos (by decide)]
  obtain ⟨j, c2⟩ := c127_miss hC (by omega) hs hi B
  simp only [fi79, Tryd.f79, an79, c1, c2, T4, T22, T28, T30, T33, T42, T44, T163, EL, e_finWf, e_finWt, e_finMN, e_finMX, retM, meltV, tupV, D.asBox, D.row1, D.freeR, D.freeO, List.replicate_succ, stepD, accs, accP, accW, simpleOp, isAl, isExt, flipD, D.fresh1, D.row, D.plain, D.plain.plainL, St.close, St.close1, St.borrow, retV, resV, resL, outCL, outC, outL, outD, wantedV, opV, An.mid, thawV, St.settle, D.plainU, prune, envOf, get, put, eval, evalT, nz, argsV, capsV, ofV, binV, binV.aggV, unV, intV, eqOp, isConst, natV, optV, loadV, loadC, storeV, setC, St.at_, partV, partTy, indexAddrV, fieldAddrV, sliceV, sliceV.rowSl, sliceV.strSl, bounds, cutP, builtinV, lenV, maxL, maxV, appendV, St.elems, roomy, rowOf, rowS, isStr, esz, tdOf, convV, buildV, fillV, partsV, okParts, fillL, D.whole, D.demoteC, D.demote, demoteL, D.global, D.flat, D.leaf, D.cells, TI.agg, TD.rowish, callOpV, moveL, CC, keepB, St.borrowL, St.borrow, D.isLsl, adoptR, adoptC, adoptCL, adoptL, adopt, List.toArray, Array.toList, Nat.reduceEqDiff, Nat.reduceAdd, Nat.reduceSub, Nat.reduceMul, Nat.reduceLeDiff, Nat.reduceLT, reduceIte, reduceCtorEq, forall_const, imp_self, Int.reduceNeg, Int.reduceLT, Int.reduceLE, Int.reduceGT, Int.reduceGE, Int.reduceAdd, Int.reduceSub, Int.reduceMul, Int.reduceToNat, Int.reduceEq, ne_eq, eq_self]
  rfl
theorem c79_bad (hC : Lib18B C) (n : Nat) (l : List Pn) (hl : l.length ≤ 9223372036854775807) (h : mayP n l = false) (id : Nat) (B : Hp) : C 79 [.agg [.int .u64 (n : Nat), .vec 18 (l.map pnD) .none], .int .u64 (id : Nat)] B = some (.tuple [.int .i64 0, errD 1], B) := hC.f79 _ _ _ (run79_bad hC n l hl h id B)
theorem c79_hit (hC : Lib18B C) (n : Nat) (l : List Pn) (h : mayP n l = true) {id i : Nat} (hi : isP l id i) (B : Hp) : C 79 [.agg [.int .u64 (n : Nat), .vec 18 (l.map pnD) .none], .int .u64 (id : Nat)] B = some (.tuple [.int .i64 (i : Nat), .nili], B) := hC.f79 _ _ _ (run79_hit hC n l h hi B)
theorem c79_miss (hC : Lib18B C) (n : Nat) (l : List Pn) (h : mayP n l = true) {id : Nat} (hi : ∀ i, ¬ isP l id i) (B : Hp) : C 79 [.agg [.int .u64 (n : Nat), .vec 18 (l.map pnD) .none], .int .u64 (id : Nat)] B = some (.tuple [.int .i64 0, errD 6], B) := hC.f79 _ _ _ (run79_miss hC n l h hi B)

/-! ### A reader, got -/
def pn0 : Pn := ⟨0, 0, fun _ => 0⟩
theorem zeros16 : nums .u64 16 (fun _ => 0) = [.int .u64 0, .int .u64 0, .int .u64 0, .int .u64 0, .int .u64 0, .int .u64 0, .int .u64 0, .int .u64 0, .int .u64 0, .int .u64 0, .int .u64 0, .int .u64 0, .int .u64 0, .int .u64 0, .int .u64 0, .int .u64 0] := rfl
set_option maxRecDepth 10000 in
theorem run20_bad (hC : Lib18B C) (n : Nat) (l : List Pn) (hl : l.length ≤ 9223372036854775807) (h : mayP n l = false) (id : Nat) (B : Hp) : runV T C fi20 [psD n l, .int .u64 (id : Nat)] B = some (.tuple [pnD pn0, errD 1], B) := by
  rw [e_run _ _ _ rfl]
  have c1 := c79_bad hC n l hl h id
  rw [errD_pos (by decide)] at c1 ⊢
  simp only [fi20, Tryd.f20, an20, c1, AL, T22, T28, T30, T33, T42, T44, EL, e_finWf, e_finWt, e_finMN, e_finMX, retM, meltV, tupV, D.asBox, D.row1, D.freeR, D.freeO, List.replicate_succ, stepD, accs, accP, accW, simpleOp, isAl, isExt, flipD, D.fresh1, D.row, D.plain, D.plain.plainL, St.close, St.close1, St.borrow, retV, resV, resL, outCL, outC, outL, outD, wantedV, opV, An.mid, thawV, St.settle, D.plainU, prune, envOf, get, put, eval, evalT, nz, argsV, capsV, ofV, binV, binV.aggV, unV, intV, eqOp, isConst, natV, optV, loadV, loadC, storeV, setC, St.at_, partV, partTy, indexAddrV, fieldAddrV, sliceV, sliceV.rowSl, sliceV.strSl, bounds, cutP, builtinV, lenV, maxL, maxV, appendV, St.elems, roomy, rowOf, rowS, isStr, esz, tdOf, convV, buildV, fillV, partsV, okParts, fillL, D.whole, D.demoteC, D.demote, demoteL, D.global, D.flat, D.leaf, D.cells, TI.agg, TD.rowish, callOpV, moveL, CC, keepB, St.borrowL, St.borrow, D.isLsl, adoptR, adoptC, adoptCL, adoptL, adopt, List.toArray, Array.toList, Nat.reduceEqDiff, Nat.reduceAdd, Nat.reduceSub, Nat.reduceMul, Nat.reduceLeDiff, Nat.reduceLT, reduceIte, reduceCtorEq, forall_const, imp_self, Int.reduceNeg, Int.reduceLT, Int.reduceLE, Int.reduceGT, Int.reduceGE, Int.reduceAdd, Int.reduceSub, Int.reduceMul, Int.reduceToNat, Int.reduceEq, ne_eq, eq_self]
  rfl
set_option maxRecDepth 10000 in
theorem run20_hit (hC : Lib18B C) (n : Nat) (l : List Pn) (h : mayP n l = true) {id i : Nat} (hi : isP l id i) (B : Hp) : runV T C fi20 [psD n l, .int .u64 (id : Nat)] B = some (.tuple [pnD (l.getD i default), .nili], B) := by
  rw [e_run _ _ _ rfl]
  have c1 := c79_hit hC n l h hi
  have e1 := pn_get hi.1
  have g1 := pnat i
  simp only [fi20, Tryd.f20, an20, c1, e1, g1, Int.toNat_natCast, AL, T22, T28, T30, T33, T42, T44, EL, e_finWf, e_finWt, e_finMN, e_finMX, retM, meltV, tupV, D.asBox, D.row1, D.freeR, D.freeO, List.replicate_succ, stepD, accs, accP, accW, simpleOp, isAl, isExt, flipD, D.fresh1, D.row, D.plain, D.plain.plainL, St.close, St.close1, St.borrow, retV, resV, resL, outCL, outC, outL, outD, wantedV, opV, An.mid, thawV, St.settle, D.plainU, prune, envOf, get, put, eval, evalT, nz, argsV, capsV, ofV, binV, binV.aggV, unV, intV, eqOp, isConst, natV, optV, loadV, loadC, storeV, setC, St.at_, partV, partTy, indexAddrV, fieldAddrV, sliceV, sliceV.rowSl, sliceV.strSl, bounds, cutP, builtinV, lenV, maxL, maxV, appendV, St.elems, roomy, rowOf, rowS, isStr, esz, tdOf, convV, buildV, fillV, partsV, okParts, fillL, D.whole, D.demoteC, D.demote, demoteL, D.global, D.flat, D.leaf, D.cells, TI.agg, TD.rowish, callOpV, moveL, CC, keepB, St.borrowL, St.borrow, D.isLsl, adoptR, adoptC, adoptCL, adoptL, adopt, List.toArray, Array.toList, Nat.reduceEqDiff, Nat.reduceAdd, Nat.reduceSub, Nat.reduceMul, Nat.reduceLeDiff, Nat.reduceLT, reduceIte, reduceCtorEq, forall_const, imp_self, Int.reduceNeg, Int.reduceLT, Int.reduceLE, Int.reduceGT, Int.reduceGE, Int.reduceAdd, Int.reduceSub, Int.reduceMul, Int.reduceToNat, Int.reduceEq, ne_eq, eq_self]
  rfl
set_option maxRecDepth 10000 in
theorem run20_miss (hC : Lib18B C) (n : Nat) (l : List Pn) (h : mayP n l = true) {id : Nat} (hi : ∀ i, ¬ isP l id i) (B : Hp) : runV T C fi20 [psD n l, .int .u64 (id : Nat)] B = some (.tuple [pnD pn0, errD 6], B) := by
  rw [e_run _ _ _ rfl]
  have c1 := c79_miss hC n l h hi
  rw [errD_pos (by decide)] at c1 ⊢
  simp only [fi20, Tryd.f20, an20, c1, AL, T22, T28, T30, T33, T42, T44, EL, e_finWf, e_finWt, e_finMN, e_finMX, retM, meltV, tupV, D.asBox, D.row1, D.freeR, D.freeO, List.replicate_succ, stepD, accs, accP, accW, simpleOp, isAl, isExt, flipD, D.fresh1, D.row, D.plain, D.plain.plainL, St.close, St.close1, St.borrow, retV, resV, resL, outCL, outC, outL, outD, wantedV, opV, An.mid, thawV, St.settle, D.plainU, prune, envOf, get, put, eval, evalT, nz, argsV, capsV, ofV, binV, binV.aggV, unV, intV, eqOp, isConst, natV, optV, loadV, loadC, storeV, setC, St.at_, partV, partTy, indexAddrV, fieldAddrV, sliceV, sliceV.rowSl, sliceV.strSl, bounds, cutP, builtinV, lenV, maxL, maxV, appendV, St.elems, roomy, rowOf, rowS, isStr, esz, tdOf, convV, buildV, fillV, partsV, okParts, fillL, D.whole, D.demoteC, D.demote, demoteL, D.global, D.flat, D.leaf, D.cells, TI.agg, TD.rowish, callOpV, moveL, CC, keepB, St.borrowL, St.borrow, D.isLsl, adoptR, adoptC, adoptCL, adoptL, adopt, List.toArray, Array.toList, Nat.reduceEqDiff, Nat.reduceAdd, Nat.reduceSub, Nat.reduceMul, Nat.reduceLeDiff, Nat.reduceLT, reduceIte, reduceCtorEq, forall_const, imp_self, Int.reduceNeg, Int.reduceLT, Int.reduceLE, Int.reduceGT, Int.reduceGE, Int.reduceAdd, Int.reduceSub, Int.reduceMul, Int.reduceToNat, Int.reduceEq, ne_eq, eq_self]
  rfl

end Go.Proofs.YtnhelkclkdfndaaDoor.V
