/-
Layer 9: what may be; how many bytes; the way to a key.
-/
import Derived.Test.YtnhelkclkdfndaaDoorQA
namespace Go.Proofs.YtnhelkclkdfndaaDoor.V
open Go Go.RowKit
set_option linter.unusedSimpArgs false
set_option linter.unusedVariables false

/-! warren/keys.Check -/
def an155 : An := ⟨fun _ => .none, fun _ => 0, fun _ => false, fun _ => .none⟩
noncomputable def fi155 : FI := ⟨1, 11, Tryd.f155.body.getD .skip, Tryd.f155.results.toList, an155, false, false, false⟩
theorem ok155 : FnOk Tryd.prog 155 fi155 := ⟨⟨Tryd.f155, Tryd.func155, by kernel_rfl, rfl, rfl, rfl⟩, by decide, by kernel_rfl, fun h => by cases h⟩
/-! warren/branch.page -/
def an123 : An := ⟨fun _ => .none, fun _ => 0, fun _ => false, fun _ => .none⟩
noncomputable def fi123 : FI := ⟨1, 9, Tryd.f123.body.getD .skip, Tryd.f123.results.toList, an123, false, false, false⟩
theorem ok123 : FnOk Tryd.prog 123 fi123 := ⟨⟨Tryd.f123, Tryd.func123, by kernel_rfl, rfl, rfl, rfl⟩, by decide, by kernel_rfl, fun h => by cases h⟩
/-! warren/branch.ascend -/
def an122 : An := ⟨fun | 2 => some [0, 5, 6, 7] | _ => .none, fun _ => 0, fun _ => false, fun _ => .none⟩
noncomputable def fi122 : FI := ⟨1, 29, Tryd.f122.body.getD .skip, Tryd.f122.results.toList, an122, false, false, false⟩
theorem ok122 : FnOk Tryd.prog 122 fi122 := ⟨⟨Tryd.f122, Tryd.func122, by kernel_rfl, rfl, rfl, rfl⟩, by decide, by kernel_rfl, fun h => by cases h⟩
noncomputable def lp122_0 : Code := subC [1, 0, 1, 0, 0] (Tryd.f122.body.getD .skip)   -- head 2 keep [0, 5, 6, 7]
/-! warren/branch.Check -/
def an73 : An := ⟨fun | 5 => some [3, 34, 35, 36] | _ => .none, fun _ => 0, fun _ => false, fun _ => .none⟩
noncomputable def fi73 : FI := ⟨1, 52, Tryd.f73.body.getD .skip, Tryd.f73.results.toList, an73, false, false, false⟩
theorem ok73 : FnOk Tryd.prog 73 fi73 := ⟨⟨Tryd.f73, Tryd.func73, by kernel_rfl, rfl, rfl, rfl⟩, by decide, by kernel_rfl, fun h => by cases h⟩
noncomputable def lp73_0 : Code := subC [1, 1, 1, 0, 1, 0, 0] (Tryd.f73.body.getD .skip)   -- head 5 keep [3, 34, 35, 36]
/-! warren/branch.Size -/
def an76 : An := ⟨fun | 3 => some [3, 6, 7, 8] | _ => .none, fun _ => 0, fun _ => false, fun _ => .none⟩
noncomputable def fi76 : FI := ⟨1, 20, Tryd.f76.body.getD .skip, Tryd.f76.results.toList, an76, false, false, false⟩
theorem ok76 : FnOk Tryd.prog 76 fi76 := ⟨⟨Tryd.f76, Tryd.func76, by kernel_rfl, rfl, rfl, rfl⟩, by decide, by kernel_rfl, fun h => by cases h⟩
noncomputable def lp76_0 : Code := subC [1, 1, 0, 1, 0, 0] (Tryd.f76.body.getD .skip)   -- head 3 keep [3, 6, 7, 8]
/-! warren/branch.Way -/
def an75 : An := ⟨fun _ => .none, fun _ => 0, fun _ => false, fun _ => .none⟩
noncomputable def fi75 : FI := ⟨2, 17, Tryd.f75.body.getD .skip, Tryd.f75.results.toList, an75, false, false, false⟩
theorem ok75 : FnOk Tryd.prog 75 fi75 := ⟨⟨Tryd.f75, Tryd.func75, by kernel_rfl, rfl, rfl, rfl⟩, by decide, by kernel_rfl, fun h => by cases h⟩
/-! slices.BinarySearchFunc[[]string,string,string] -/
def an125 : An := ⟨fun | 3 => some [0, 1, 2, 8, 9, 10] | _ => .none, fun _ => 0, fun _ => false, fun _ => .none⟩
noncomputable def fi125 : FI := ⟨3, 49, Tryd.f125.body.getD .skip, Tryd.f125.results.toList, an125, false, false, false⟩
theorem ok125 : FnOk Tryd.prog 125 fi125 := ⟨⟨Tryd.f125, Tryd.func125, by kernel_rfl, rfl, rfl, rfl⟩, by decide, by kernel_rfl, fun h => by cases h⟩
noncomputable def lp125_0 : Code := subC [1, 1, 1, 0, 0, 0] (Tryd.f125.body.getD .skip)   -- head 3 keep [0, 1, 2, 8, 9, 10]
/-! cmp.Compare[string] -/
def an126 : An := ⟨fun _ => .none, fun _ => 0, fun _ => false, fun _ => .none⟩
noncomputable def fi126 : FI := ⟨2, 20, Tryd.f126.body.getD .skip, Tryd.f126.results.toList, an126, false, false, false⟩
theorem ok126 : FnOk Tryd.prog 126 fi126 := ⟨⟨Tryd.f126, Tryd.func126, by kernel_rfl, rfl, rfl, rfl⟩, by decide, by kernel_rfl, fun h => by cases h⟩
/-! cmp.isNaN[string] -/
def an156 : An := ⟨fun _ => .none, fun _ => 0, fun _ => false, fun _ => .none⟩
noncomputable def fi156 : FI := ⟨1, 6, Tryd.f156.body.getD .skip, Tryd.f156.results.toList, an156, false, false, false⟩
theorem ok156 : FnOk Tryd.prog 156 fi156 := ⟨⟨Tryd.f156, Tryd.func156, by kernel_rfl, rfl, rfl, rfl⟩, by decide, by kernel_rfl, fun h => by cases h⟩
structure Lib09A (C : Callees) : Prop extends LibPackB C where
  f155 : Has T C 155 fi155
  f123 : Has T C 123 fi123
  f122 : Has T C 122 fi122
  f73 : Has T C 73 fi73
  f76 : Has T C 76 fi76
  f75 : Has T C 75 fi75
  f125 : Has T C 125 fi125
  f126 : Has T C 126 fi126
  f156 : Has T C 156 fi156

variable {C : Callees}

abbrev iD (n : Int) : D := .int .i64 n
abbrev strR (ks : List Ky) (p : Perm) : D := .vec 1 (ks.map D.str) p
abbrev intR (ns : List Int) (p : Perm) : D := .vec 1 (ns.map iD) p
theorem str_get {ks : List Ky} {i : Nat} (h : i < ks.length) : (ks.map D.str)[i]? = some (.str (ks.getD i [])) := by
  rw [List.getElem?_map, List.getD_eq_getElem?_getD, List.getElem?_eq_getElem h]; rfl
theorem int_get {ns : List Int} {i : Nat} (h : i < ns.length) : (ns.map iD)[i]? = some (.int .i64 (ns.getD i 0)) := by
  rw [List.getElem?_map, List.getD_eq_getElem?_getD, List.getElem?_eq_getElem h]; rfl

/-! ### Check -/
def keyE (k : Ky) : Nat := if 1 ≤ k.length ∧ k.length ≤ 40 then 0 else 1
set_option maxRecDepth 10000 in
theorem run155 (C : Callees) (k : Ky) (B : Hp) : runV T C fi155 [.str k] B = some (errD (keyE k), B) := by
  rw [e_run _ _ _ rfl]
  unfold keyE
  cases k with
  | nil =>
    have g : strV .eql [] [] = some (.bool true) := rfl
    simp only [fi155, Tryd.f155, an155, g, T3, T9, T163, EL, e_finWf, e_finWt, e_finMN, e_finMX, retM, meltV, tupV, D.asBox, D.row1, D.freeR, D.freeO, List.replicate_succ, stepD, accs, accP, accW, simpleOp, isAl, isExt, flipD, D.fresh1, D.row, D.plain, D.plain.plainL, St.close, St.close1, St.borrow, retV, resV, resL, outCL, outC, outL, outD, wantedV, opV, An.mid, thawV, St.settle, D.plainU, prune, envOf, get, put, eval, evalT, nz, argsV, capsV, ofV, binV, binV.aggV, unV, intV, eqOp, isConst, natV, optV, loadV, loadC, storeV, setC, St.at_, partV, partTy, indexAddrV, fieldAddrV, sliceV, sliceV.rowSl, sliceV.strSl, bounds, cutP, builtinV, lenV, maxL, maxV, appendV, St.elems, roomy, rowOf, rowS, isStr, esz, tdOf, convV, buildV, fillV, partsV, okParts, fillL, D.whole, D.demoteC, D.demote, demoteL, D.global, D.flat, D.leaf, D.cells, TI.agg, TD.rowish, callOpV, moveL, CC, keepB, St.borrowL, St.borrow, D.isLsl, adoptR, adoptC, adoptCL, adoptL, adopt, List.toArray, Array.toList, Nat.reduceEqDiff, Nat.reduceAdd, Nat.reduceSub, Nat.reduceMul, Nat.reduceLeDiff, Nat.reduceLT, reduceIte, reduceCtorEq, forall_const, imp_self, Int.reduceNeg, Int.reduceLT, Int.reduceLE, Int.reduceGT, Int.reduceGE, Int.reduceAdd, Int.reduceSub, Int.reduceMul, Int.reduceToNat, Int.reduceEq, ne_eq, eq_self]
    rfl
  | cons c k =>
    have g : strV .eql (c :: k) [] = some (.bool false) := rfl
    by_cases h : (c :: k).length ≤ 40
    · have h1 : ¬ ((k.length + 1 : Nat) : Int) > 40 := by simp at h; omega
      rw [if_pos ⟨by simp, h⟩]
      simp only [fi155, Tryd.f155, an155, g, h1, T3, T9, T163, EL, e_finWf, e_finWt, e_finMN, e_finMX, retM, meltV, tupV, D.asBox, D.row1, D.freeR, D.freeO, List.replicate_succ, stepD, accs, accP, accW, simpleOp, isAl, isExt, flipD, D.fresh1, D.row, D.plain, D.plain.plainL, St.close, St.close1, St.borrow, retV, resV, resL, outCL, outC, outL, outD, wantedV, opV, An.mid, thawV, St.settle, D.plainU, prune, envOf, get, put, eval, evalT, nz, argsV, capsV, ofV, binV, binV.aggV, unV, intV, eqOp, isConst, natV, optV, loadV, loadC, storeV, setC, St.at_, partV, partTy, indexAddrV, fieldAddrV, sliceV, sliceV.rowSl, sliceV.strSl, bounds, cutP, builtinV, lenV, maxL, maxV, appendV, St.elems, roomy, rowOf, rowS, isStr, esz, tdOf, convV, buildV, fillV, partsV, okParts, fillL, D.whole, D.demoteC, D.demote, demoteL, D.global, D.flat, D.leaf, D.cells, TI.agg, TD.rowish, callOpV, moveL, CC, keepB, St.borrowL, St.borrow, D.isLsl, adoptR, adoptC, adoptCL, adoptL, adopt, List.toArray, Array.toList, Nat.reduceEqDiff, Nat.reduceAdd, Nat.reduceSub, Nat.reduceMul, Nat.reduceLeDiff, Nat.reduceLT, reduceIte, reduceCtorEq, forall_const, imp_self, Int.reduceNeg, Int.reduceLT, Int.reduceLE, Int.reduceGT, Int.reduceGE, Int.reduceAdd, Int.reduceSub, Int.reduceMul, Int.reduceToNat, Int.reduceEq, ne_eq, eq_self]
      rfl
    · have h1 : ((k.length + 1 : Nat) : Int) > 40 := by simp at h; omega
      rw [if_neg (fun h2 => h h2.2)]
      simp only [fi155, Tryd.f155, an155, g, h1, T3, T9, T163, EL, e_finWf, e_finWt, e_finMN, e_finMX, retM, meltV, tupV, D.asBox, D.row1, D.freeR, D.freeO, List.replicate_succ, stepD, accs, accP, accW, simpleOp, isAl, isExt, flipD, D.fresh1, D.row, D.plain, D.plain.plainL, St.close, St.close1, St.borrow, retV, resV, resL, outCL, outC, outL, outD, wantedV, opV, An.mid, thawV, St.settle, D.plainU, prune, envOf, get, put, eval, evalT, nz, argsV, capsV, ofV, binV, binV.aggV, unV, intV, eqOp, isConst, natV, optV, loadV, loadC, storeV, setC, St.at_, partV, partTy, indexAddrV, fieldAddrV, sliceV, sliceV.rowSl, sliceV.strSl, bounds, cutP, builtinV, lenV, maxL, maxV, appendV, St.elems, roomy, rowOf, rowS, isStr, esz, tdOf, convV, buildV, fillV, partsV, okParts, fillL, D.whole, D.demoteC, D.demote, demoteL, D.global, D.flat, D.leaf, D.cells, TI.agg, TD.rowish, callOpV, moveL, CC, keepB, St.borrowL, St.borrow, D.isLsl, adoptR, adoptC, adoptCL, adoptL, adopt, List.toArray, Array.toList, Nat.reduceEqDiff, Nat.reduceAdd, Nat.reduceSub, Nat.reduceMul, Nat.reduceLeDiff, Nat.reduceLT, reduceIte, reduceCtorEq, forall_const, imp_self, Int.reduceNeg, Int.reduceLT, Int.reduceLE, Int.reduceGT, Int.reduceGE, Int.reduceAdd, Int.reduceSub, Int.reduceMul, Int.reduceToNat, Int.reduceEq, ne_eq, eq_self]
      rfl
theorem c155 (hC : Lib09A C) (k : Ky) (B : Hp) : C 155 [.str k] B = some (errD (keyE k), B) := hC.f155 _ _ _ (run155 C k B)

set_option maxRecDepth 10000 in
theorem run123 (C : Callees) (n : Int) (B : Hp) : runV T C fi123 [.int .i64 n] B = some (.bool (decide (2 ≤ n) && decide (n ≤ 1023)), B) := by
  rw [e_run _ _ _ rfl]
  by_cases h1 : n ≥ 2
  · rw [decide_eq_true (show 2 ≤ n from h1)]
    by_cases h2 : n < 1024
    · rw [decide_eq_true (show n ≤ 1023 by omega)]
      simp only [fi123, Tryd.f123, an123, h1, h2, T3, EL, e_finWf, e_finWt, e_finMN, e_finMX, retM, meltV, tupV, D.asBox, D.row1, D.freeR, D.freeO, List.replicate_succ, stepD, accs, accP, accW, simpleOp, isAl, isExt, flipD, D.fresh1, D.row, D.plain, D.plain.plainL, St.close, St.close1, St.borrow, retV, resV, resL, outCL, outC, outL, outD, wantedV, opV, An.mid, thawV, St.settle, D.plainU, prune, envOf, get, put, eval, evalT, nz, argsV, capsV, ofV, binV, binV.aggV, unV, intV, eqOp, isConst, natV, optV, loadV, loadC, storeV, setC, St.at_, partV, partTy, indexAddrV, fieldAddrV, sliceV, sliceV.rowSl, sliceV.strSl, bounds, cutP, builtinV, lenV, maxL, maxV, appendV, St.elems, roomy, rowOf, rowS, isStr, esz, tdOf, convV, buildV, fillV, partsV, okParts, fillL, D.whole, D.demoteC, D.demote, demoteL, D.global, D.flat, D.leaf, D.cells, TI.agg, TD.rowish, callOpV, moveL, CC, keepB, St.borrowL, St.borrow, D.isLsl, adoptR, adoptC, adoptCL, adoptL, adopt, List.toArray, Array.toList, Nat.reduceEqDiff, Nat.reduceAdd, Nat.reduceSub, Nat.reduceMul, Nat.reduceLeDiff, Nat.reduceLT, reduceIte, reduceCtorEq, forall_const, imp_self, Int.reduceNeg, Int.reduceLT, Int.reduceLE, Int.reduceGT, Int.reduceGE, Int.reduceAdd, Int.reduceSub, Int.reduceMul, Int.reduceToNat, Int.reduceEq, ne_eq, eq_self]
    · rw [decide_eq_false (show ¬ n ≤ 1023 by omega)]
      simp only [fi123, Tryd.f123, an123, h1, h2, T3, EL, e_finWf, e_finWt, e_finMN, e_finMX, retM, meltV, tupV, D.asBox, D.row1, D.freeR, D.freeO, List.replicate_succ, stepD, accs, accP, accW, simpleOp, isAl, isExt, flipD, D.fresh1, D.row, D.plain, D.plain.plainL, St.close, St.close1, St.borrow, retV, resV, resL, outCL, outC, outL, outD, wantedV, opV, An.mid, thawV, St.settle, D.plainU, prune, envOf, get, put, eval, evalT, nz, argsV, capsV, ofV, binV, binV.aggV, unV, intV, eqOp, isConst, natV, optV, loadV, loadC, storeV, setC, St.at_, partV, partTy, indexAddrV, fieldAddrV, sliceV, sliceV.rowSl, sliceV.strSl, bounds, cutP, builtinV, lenV, maxL, maxV, appendV, St.elems, roomy, rowOf, rowS, isStr, esz, tdOf, convV, buildV, fillV, partsV, okParts, fillL, D.whole, D.demoteC, D.demote, demoteL, D.global, D.flat, D.leaf, D.cells, TI.agg, TD.rowish, callOpV, moveL, CC, keepB, St.borrowL, St.borrow, D.isLsl, adoptR, adoptC, adoptCL, adoptL, adopt, List.toArray, Array.toList, Nat.reduceEqDiff, Nat.reduceAdd, Nat.reduceSub, Nat.reduceMul, Nat.reduceLeDiff, Nat.reduceLT, reduceIte, reduceCtorEq, forall_const, imp_self, Int.reduceNeg, Int.reduceLT, Int.reduceLE, Int.reduceGT, Int.reduceGE, Int.reduceAdd, Int.reduceSub, Int.reduceMul, Int.reduceToNat, Int.reduceEq, ne_eq, eq_self]
  · rw [decide_eq_false (show ¬ 2 ≤ n from h1)]
    simp only [fi123, Tryd.f123, an123, h1, T3, EL, e_finWf, e_finWt, e_finMN, e_finMX, retM, meltV, tupV, D.asBox, D.row1, D.freeR, D.freeO, List.replicate_succ, stepD, accs, accP, accW, simpleOp, isAl, isExt, flipD, D.fresh1, D.row, D.plain, D.plain.plainL, St.close, St.close1, St.borrow, retV, resV, resL, outCL, outC, outL, outD, wantedV, opV, An.mid, thawV, St.settle, D.plainU, prune, envOf, get, put, eval, evalT, nz, argsV, capsV, ofV, binV, binV.aggV, unV, intV, eqOp, isConst, natV, optV, loadV, loadC, storeV, setC, St.at_, partV, partTy, indexAddrV, fieldAddrV, sliceV, sliceV.rowSl, sliceV.strSl, bounds, cutP, builtinV, lenV, maxL, maxV, appendV, St.elems, roomy, rowOf, rowS, isStr, esz, tdOf, convV, buildV, fillV, partsV, okParts, fillL, D.whole, D.demoteC, D.demote, demoteL, D.global, D.flat, D.leaf, D.cells, TI.agg, TD.rowish, callOpV, moveL, CC, keepB, St.borrowL, St.borrow, D.isLsl, adoptR, adoptC, adoptCL, adoptL, adopt, List.toArray, Array.toList, Nat.reduceEqDiff, Nat.reduceAdd, Nat.reduceSub, Nat.reduceMul, Nat.reduceLeDiff, Nat.reduceLT, reduceIte, reduceCtorEq, forall_const, imp_self, Int.reduceNeg, Int.reduceLT, Int.reduceLE, Int.reduceGT, Int.reduceGE, Int.reduceAdd, Int.reduceSub, Int.reduceMul, Int.reduceToNat, Int.reduceEq, ne_eq, eq_self]
theorem c123 (hC : Lib09A C) (n : Int) (B : Hp) : C 123 [.int .i64 n] B = some (.bool (decide (2 ≤ n) && decide (n ≤ 1023)), B) := hC.f123 _ _ _ (run123 C n B)

def st122 (B : Hp) (ks : List Ky) (k : Nat) : St := ⟨[(0, strR ks .none), (5, strR ks .none), (6, .int .i64 ks.length), (7, .int .i64 (k : Nat))], [], [], B⟩
set_option maxRecDepth 10000 in
set_option maxHeartbeats 1000000 in
theorem loop122 (hC : Lib09A C) (B : Hp) (ks : List Ky) (hl : ks.length ≤ 100000) (st : St) (hst : an122.at_ (some 2) st = st122 B ks 0) :
    ∃ x st', loopC T an122 C lp122_0 st = some (x, st') ∧ ∃ ρ, st' = ⟨ρ, [], [], B⟩ ∧ ((x = .exit 0 ∧ allB ks.length (kP ks) = true) ∨ (x = .ret ∧ allB ks.length (kP ks) = false ∧ get ρ 2 = .bool false)) := by
  refine loop_rule (st122 B ks) (fun k => k ≤ ks.length ∧ allB k (kP ks) = true) (fun k => ks.length - k) _ ?_ 0 st hst ⟨Nat.zero_le _, rfl⟩
  rintro k ⟨hk, hI⟩
  rcases Nat.lt_or_ge k ks.length with h | h
  · have g0 : (k : Int) < ks.length := by omega
    have g1 := pnat k
    have w1 : IntKind.i64.wrap ((k : Int) + 1) = ((k + 1 : Nat) : Int) := by rw [wrapI (by omega) (by omega)]; rfl
    have e1 := str_get h
    have c1 := c155 hC (ks.getD k [])
    unfold keyE at c1
    by_cases hx : 1 ≤ (ks.getD k []).length ∧ (ks.getD k []).length ≤ 40
    · rw [if_pos hx, errD_zero] at c1
      rcases Nat.eq_zero_or_pos k with h0 | h0
      · have hP : kP ks k = true := by
          unfold kP
          rw [decide_eq_true hx.1, decide_eq_true hx.2, decide_eq_true h0]; rfl
        have g2 : ¬ (k : Int) > 0 := by omega
        left
        refine ⟨k + 1, ?_, ⟨by omega, by rw [allB, hI, hP]; rfl⟩, by omega⟩
        simp only [st122, lp122_0, subC, atC, Tryd.f122, an122, g0, g1, g2, w1, e1, c1, Int.toNat_natCast, T3, T9, T33, T145, EL, e_finWf, e_finWt, e_finMN, e_finMX, retM, meltV, tupV, D.asBox, D.row1, D.freeR, D.freeO, List.replicate_succ, stepD, accs, accP, accW, simpleOp, isAl, isExt, flipD, D.fresh1, D.row, D.plain, D.plain.plainL, St.close, St.close1, St.borrow, retV, resV, resL, outCL, outC, outL, outD, wantedV, opV, An.mid, thawV, St.settle, D.plainU, prune, envOf, get, put, eval, evalT, nz, argsV, capsV, ofV, binV, binV.aggV, unV, intV, eqOp, isConst, natV, optV, loadV, loadC, storeV, setC, St.at_, partV, partTy, indexAddrV, fieldAddrV, sliceV, sliceV.rowSl, sliceV.strSl, bounds, cutP, builtinV, lenV, maxL, maxV, appendV, St.elems, roomy, rowOf, rowS, isStr, esz, tdOf, convV, buildV, fillV, partsV, okParts, fillL, D.whole, D.demoteC, D.demote, demoteL, D.global, D.flat, D.leaf, D.cells, TI.agg, TD.rowish, callOpV, moveL, CC, keepB, St.borrowL, St.borrow, D.isLsl, adoptR, adoptC, adoptCL, adoptL, adopt, List.toArray, Array.toList, Nat.reduceEqDiff, Nat.reduceAdd, Nat.reduceSub, Nat.reduceMul, Nat.reduceLeDiff, Nat.reduceLT, reduceIte, reduceCtorEq, forall_const, imp_self, Int.reduceNeg, Int.reduceLT, Int.reduceLE, Int.reduceGT, Int.reduceGE, Int.reduceAdd, Int.reduceSub, Int.reduceMul, Int.reduceToNat, Int.reduceEq, ne_eq, eq_self]
        exact ⟨_, rfl, rfl⟩
      · have g2 : (k : Int) > 0 := by omega
        have w2 : IntKind.i64.wrap ((k : Int) - 1) = ((k - 1 : Nat) : Int) := by rw [wrapI (by omega) (by omega)]; omega
        have g3 := pnat (k - 1)
        have e2 := str_get (ks := ks) (i := k - 1) (by omega)
        have hP : kP ks k = lt (ks.getD (k - 1) []) (ks.getD k []) := by
          unfold kP
          rw [decide_eq_true hx.1, decide_eq_true hx.2, decide_eq_false (by omega)]; rfl
        have s1 : strV .geq (ks.getD (k - 1) []) (ks.getD k []) = some (.bool (!lt (ks.getD (k - 1) []) (ks.getD k []))) := rfl
        generalize ks.getD (k - 1) [] = y at e2 hP s1
        generalize ks.getD k [] = x at e1 c1 hP s1 hx
        cases hlt : lt y x <;> rw [hlt] at hP s1
        · right
          simp only [st122, lp122_0, subC, atC, Tryd.f122, an122, g0, g1, g2, g3, w1, w2, e1, e2, c1, s1, Bool.not_false, Int.toNat_natCast, T3, T9, T33, T145, EL, e_finWf, e_finWt, e_finMN, e_finMX, retM, meltV, tupV, D.asBox, D.row1, D.freeR, D.freeO, List.replicate_succ, stepD, accs, accP, accW, simpleOp, isAl, isExt, flipD, D.fresh1, D.row, D.plain, D.plain.plainL, St.close, St.close1, St.borrow, retV, resV, resL, outCL, outC, outL, outD, wantedV, opV, An.mid, thawV, St.settle, D.plainU, prune, envOf, get, put, eval, evalT, nz, argsV, capsV, ofV, binV, binV.aggV, unV, intV, eqOp, isConst, natV, optV, loadV, loadC, storeV, setC, St.at_, partV, partTy, indexAddrV, fieldAddrV, sliceV, sliceV.rowSl, sliceV.strSl, bounds, cutP, builtinV, lenV, maxL, maxV, appendV, St.elems, roomy, rowOf, rowS, isStr, esz, tdOf, convV, buildV, fillV, partsV, okParts, fillL, D.whole, D.demoteC, D.demote, demoteL, D.global, D.flat, D.leaf, D.cells, TI.agg, TD.rowish, callOpV, moveL, CC, keepB, St.borrowL, St.borrow, D.isLsl, adoptR, adoptC, adoptCL, adoptL, adopt, List.toArray, Array.toList, Nat.reduceEqDiff, Nat.reduceAdd, Nat.reduceSub, Nat.reduceMul, Nat.reduceLeDiff, Nat.reduceLT, reduceIte, reduceCtorEq, forall_const, imp_self, Int.reduceNeg, Int.reduceLT, Int.reduceLE, Int.reduceGT, Int.reduceGE, Int.reduceAdd, Int.reduceSub, Int.reduceMul, Int.reduceToNat, Int.reduceEq, ne_eq, eq_self]
          exact ⟨_, _, rfl, by simp, _, rfl, .inr ⟨rfl, allB_no h hP, rfl⟩⟩
        · left
          refine ⟨k + 1, ?_, ⟨by omega, by rw [allB, hI, hP]; rfl⟩, by omega⟩
          simp only [st122, lp122_0, subC, atC, Tryd.f122, an122, g0, g1, g2, g3, w1, w2, e1, e2, c1, s1, Bool.not_true, Int.toNat_natCast, T3, T9, T33, T145, EL, e_finWf, e_finWt, e_finMN, e_finMX, retM, meltV, tupV, D.asBox, D.row1, D.freeR, D.freeO, List.replicate_succ, stepD, accs, accP, accW, simpleOp, isAl, isExt, flipD, D.fresh1, D.row, D.plain, D.plain.plainL, St.close, St.close1, St.borrow, retV, resV, resL, outCL, outC, outL, outD, wantedV, opV, An.mid, thawV, St.settle, D.plainU, prune, envOf, get, put, eval, evalT, nz, argsV, capsV, ofV, binV, binV.aggV, unV, intV, eqOp, isConst, natV, optV, loadV, loadC, storeV, setC, St.at_, partV, partTy, indexAddrV, fieldAddrV, sliceV, sliceV.rowSl, sliceV.strSl, bounds, cutP, builtinV, lenV, maxL, maxV, appendV, St.elems, roomy, rowOf, rowS, isStr, esz, tdOf, convV, buildV, fillV, partsV, okParts, fillL, D.whole, D.demoteC, D.demote, demoteL, D.global, D.flat, D.leaf, D.cells, TI.agg, TD.rowish, callOpV, moveL, CC, keepB, St.borrowL, St.borrow, D.isLsl, adoptR, adoptC, adoptCL, adoptL, adopt, List.toArray, Array.toList, Nat.reduceEqDiff, Nat.reduceAdd, Nat.reduceSub, Nat.reduceMul, Nat.reduceLeDiff, Nat.reduceLT, reduceIte, reduceCtorEq, forall_const, imp_self, Int.reduceNeg, Int.reduceLT, Int.reduceLE, Int.reduceGT, Int.reduceGE, Int.reduceAdd, Int.reduceSub, Int.reduceMul, Int.reduceToNat, Int.reduceEq, ne_eq, eq_self]
          exact ⟨_, rfl, rfl⟩
    · rw [if_neg hx, errD_pos (by decide)] at c1
      have hP : kP ks k = false := by
        unfold kP
        rw [Bool.eq_false_iff]
        intro h
        simp only [Bool.and_eq_true, decide_eq_true_eq] at h
        exact hx h.1
      right
      simp only [st122, lp122_0, subC, atC, Tryd.f122, an122, g0, g1, w1, e1, c1, Int.toNat_natCast, T3, T9, T33, T145, EL, e_finWf, e_finWt, e_finMN, e_finMX, retM, meltV, tupV, D.asBox, D.row1, D.freeR, D.freeO, List.replicate_succ, stepD, accs, accP, accW, simpleOp, isAl, isExt, flipD, D.fresh1, D.row, D.plain, D.plain.plainL, St.close, St.close1, St.borrow, retV, resV, resL, outCL, outC, outL, outD, wantedV, opV, An.mid, thawV, St.settle, D.plainU, prune, envOf, get, put, eval, evalT, nz, argsV, capsV, ofV, binV, binV.aggV, unV, intV, eqOp, isConst, natV, optV, loadV, loadC, storeV, setC, St.at_, partV, partTy, indexAddrV, fieldAddrV, sliceV, sliceV.rowSl, sliceV.strSl, bounds, cutP, builtinV, lenV, maxL, maxV, appendV, St.elems, roomy, rowOf, rowS, isStr, esz, tdOf, convV, buildV, fillV, partsV, okParts, fillL, D.whole, D.demoteC, D.demote, demoteL, D.global, D.flat, D.leaf, D.cells, TI.agg, TD.rowish, callOpV, moveL, CC, keepB, St.borrowL, St.borrow, D.isLsl, adoptR, adoptC, adoptCL, adoptL, adopt, List.toArray, Array.toList, Nat.reduceEqDiff, Nat.reduceAdd, Nat.reduceSub, Nat.reduceMul, Nat.reduceLeDiff, Nat.reduceLT, reduceIte, reduceCtorEq, forall_const, imp_self, Int.reduceNeg, Int.reduceLT, Int.reduceLE, Int.reduceGT, Int.reduceGE, Int.reduceAdd, Int.reduceSub, Int.reduceMul, Int.reduceToNat, Int.reduceEq, ne_eq, eq_self]
      exact ⟨_, _, rfl, by simp, _, rfl, .inr ⟨rfl, allB_no h hP, rfl⟩⟩
  · right
    obtain rfl : k = ks.length := by omega
    have g0 : ¬ ((ks.length : Nat) : Int) < ks.length := by omega
    simp only [st122, lp122_0, subC, atC, Tryd.f122, an122, g0, T3, T9, T33, T145, EL, e_finWf, e_finWt, e_finMN, e_finMX, retM, meltV, tupV, D.asBox, D.row1, D.freeR, D.freeO, List.replicate_succ, stepD, accs, accP, accW, simpleOp, isAl, isExt, flipD, D.fresh1, D.row, D.plain, D.plain.plainL, St.close, St.close1, St.borrow, retV, resV, resL, outCL, outC, outL, outD, wantedV, opV, An.mid, thawV, St.settle, D.plainU, prune, envOf, get, put, eval, evalT, nz, argsV, capsV, ofV, binV, binV.aggV, unV, intV, eqOp, isConst, natV, optV, loadV, loadC, storeV, setC, St.at_, partV, partTy, indexAddrV, fieldAddrV, sliceV, sliceV.rowSl, sliceV.strSl, bounds, cutP, builtinV, lenV, maxL, maxV, appendV, St.elems, roomy, rowOf, rowS, isStr, esz, tdOf, convV, buildV, fillV, partsV, okParts, fillL, D.whole, D.demoteC, D.demote, demoteL, D.global, D.flat, D.leaf, D.cells, TI.agg, TD.rowish, callOpV, moveL, CC, keepB, St.borrowL, St.borrow, D.isLsl, adoptR, adoptC, adoptCL, adoptL, adopt, List.toArray, Array.toList, Nat.reduceEqDiff, Nat.reduceAdd, Nat.reduceSub, Nat.reduceMul, Nat.reduceLeDiff, Nat.reduceLT, reduceIte, reduceCtorEq, forall_const, imp_self, Int.reduceNeg, Int.reduceLT, Int.reduceLE, Int.reduceGT, Int.reduceGE, Int.reduceAdd, Int.reduceSub, Int.reduceMul, Int.reduceToNat, Int.reduceEq, ne_eq, eq_self]
    exact ⟨_, _, rfl, by simp, _, rfl, .inl ⟨rfl, hI⟩⟩

set_option maxRecDepth 10000 in
theorem run122 (hC : Lib09A C) (ks : List Ky) (hl : ks.length ≤ 100000) (B : Hp) : runV T C fi122 [strR ks .none] B = some (.bool (allB ks.length (kP ks)), B) := by
  rw [e_run _ _ _ rfl]
  have lp := loop122 hC B ks hl
  simp only [fi122, Tryd.f122, an122, T3, T9, T33, T145, EL, e_finWf, e_finWt, e_finMN, e_finMX, retM, meltV, tupV, D.asBox, D.row1, D.freeR, D.freeO, List.replicate_succ, stepD, accs, accP, accW, simpleOp, isAl, isExt, flipD, D.fresh1, D.row, D.plain, D.plain.plainL, St.close, St.close1, St.borrow, retV, resV, resL, outCL, outC, outL, outD, wantedV, opV, An.mid, thawV, St.settle, D.plainU, prune, envOf, get, put, eval, evalT, nz, argsV, capsV, ofV, binV, binV.aggV, unV, intV, eqOp, isConst, natV, optV, loadV, loadC, storeV, setC, St.at_, partV, partTy, indexAddrV, fieldAddrV, sliceV, sliceV.rowSl, sliceV.strSl, bounds, cutP, builtinV, lenV, maxL, maxV, appendV, St.elems, roomy, rowOf, rowS, isStr, esz, tdOf, convV, buildV, fillV, partsV, okParts, fillL, D.whole, D.demoteC, D.demote, demoteL, D.global, D.flat, D.leaf, D.cells, TI.agg, TD.rowish, callOpV, moveL, CC, keepB, St.borrowL, St.borrow, D.isLsl, adoptR, adoptC, adoptCL, adoptL, adopt, List.toArray, Array.toList, Nat.reduceEqDiff, Nat.reduceAdd, Nat.reduceSub, Nat.reduceMul, Nat.reduceLeDiff, Nat.reduceLT, reduceIte, reduceCtorEq, forall_const, imp_self, Int.reduceNeg, Int.reduceLT, Int.reduceLE, Int.reduceGT, Int.reduceGE, Int.reduceAdd, Int.reduceSub, Int.reduceMul, Int.reduceToNat, Int.reduceEq, ne_eq, eq_self]
  refine' in_loop (c' := lp122_0) (fin T _ _ _) ?h rfl ?q
  case h =>
    refine lp _ ?_
    simp only [an122, ren_map, toks_map, boxes_map, st122, pz0, An.at_, tidyV, tidyW, tidyB, tidyT, sift, envBoxes, envToks, conToks, D.toks, D.tok1, toksL, D.boxes, D.box1, boxesL, memN, posN, renE, D.ren, D.ren1, renL, renB, St.content, St.boxOk, St.tokOk, trues, T3, T9, T33, T145, EL, e_finWf, e_finWt, e_finMN, e_finMX, retM, meltV, tupV, D.asBox, D.row1, D.freeR, D.freeO, List.replicate_succ, stepD, accs, accP, accW, simpleOp, isAl, isExt, flipD, D.fresh1, D.row, D.plain, D.plain.plainL, St.close, St.close1, St.borrow, retV, resV, resL, outCL, outC, outL, outD, wantedV, opV, An.mid, thawV, St.settle, D.plainU, prune, envOf, get, put, eval, evalT, nz, argsV, capsV, ofV, binV, binV.aggV, unV, intV, eqOp, isConst, natV, optV, loadV, loadC, storeV, setC, St.at_, partV, partTy, indexAddrV, fieldAddrV, sliceV, sliceV.rowSl, sliceV.strSl, bounds, cutP, builtinV, lenV, maxL, maxV, appendV, St.elems, roomy, rowOf, rowS, isStr, esz, tdOf, convV, buildV, fillV, partsV, okParts, fillL, D.whole, D.demoteC, D.demote, demoteL, D.global, D.flat, D.leaf, D.cells, TI.agg, TD.rowish, callOpV, moveL, CC, keepB, St.borrowL, St.borrow, D.isLsl, adoptR, adoptC, adoptCL, adoptL, adopt, List.toArray, Array.toList, Nat.reduceEqDiff, Nat.reduceAdd, Nat.reduceSub, Nat.reduceMul, Nat.reduceLeDiff, Nat.reduceLT, reduceIte, reduceCtorEq, forall_const, imp_self, Int.reduceNeg, Int.reduceLT, Int.reduceLE, Int.reduceGT, Int.reduceGE, Int.reduceAdd, Int.reduceSub, Int.reduceMul, Int.reduceToNat, Int.reduceEq, ne_eq, eq_self]
    all_goals rfl
  rintro x st' ⟨ρ, rfl, ⟨rfl, hb⟩ | ⟨rfl, hb, r2⟩⟩
  · rw [hb]
    simp only [T3, T9, T33, T145, EL, e_finWf, e_finWt, e_finMN, e_finMX, retM, meltV, tupV, D.asBox, D.row1, D.freeR, D.freeO, List.replicate_succ, stepD, accs, accP, accW, simpleOp, isAl, isExt, flipD, D.fresh1, D.row, D.plain, D.plain.plainL, St.close, St.close1, St.borrow, retV, resV, resL, outCL, outC, outL, outD, wantedV, opV, An.mid, thawV, St.settle, D.plainU, prune, envOf, get, put, eval, evalT, nz, argsV, capsV, ofV, binV, binV.aggV, unV, intV, eqOp, isConst, natV, optV, loadV, loadC, storeV, setC, St.at_, partV, partTy, indexAddrV, fieldAddrV, sliceV, sliceV.rowSl, sliceV.strSl, bounds, cutP, builtinV, lenV, maxL, maxV, appendV, St.elems, roomy, rowOf, rowS, isStr, esz, tdOf, convV, buildV, fillV, partsV, okParts, fillL, D.whole, D.demoteC, D.demote, demoteL, D.global, D.flat, D.leaf, D.cells, TI.agg, TD.rowish, callOpV, moveL, CC, keepB, St.borrowL, St.borrow, D.isLsl, adoptR, adoptC, adoptCL, adoptL, adopt, List.toArray, Array.toList, Nat.reduceEqDiff, Nat.reduceAdd, Nat.reduceSub, Nat.reduceMul, Nat.reduceLeDiff, Nat.reduceLT, reduceIte, reduceCtorEq, forall_const, imp_self, Int.reduceNeg, Int.reduceLT, Int.reduceLE, Int.reduceGT, Int.reduceGE, Int.reduceAdd, Int.reduceSub, Int.reduceMul, Int.reduceToNat, Int.reduceEq, ne_eq, eq_self]
  · rw [hb]
    simp only [r2, T3, T9, T33, T145, EL, e_finWf, e_finWt, e_finMN, e_finMX, retM, meltV, tupV, D.asBox, D.row1, D.freeR, D.freeO, List.replicate_succ, stepD, accs, accP, accW, simpleOp, isAl, isExt, flipD, D.fresh1, D.row, D.plain, D.plain.plainL, St.close, St.close1, St.borrow, retV, resV, resL, outCL, outC, outL, outD, wantedV, opV, An.mid, thawV, St.settle, D.plainU, prune, envOf, get, put, eval, evalT, nz, argsV, capsV, ofV, binV, binV.aggV, unV, intV, eqOp, isConst, natV, optV, loadV, loadC, storeV, setC, St.at_, partV, partTy, indexAddrV, fieldAddrV, sliceV, sliceV.rowSl, sliceV.strSl, bounds, cutP, builtinV, lenV, maxL, maxV, appendV, St.elems, roomy, rowOf, rowS, isStr, esz, tdOf, convV, buildV, fillV, partsV, okParts, fillL, D.whole, D.demoteC, D.demote, demoteL, D.global, D.flat, D.leaf, D.cells, TI.agg, TD.rowish, callOpV, moveL, CC, keepB, St.borrowL, St.borrow, D.isLsl, adoptR, adoptC, adoptCL, adoptL, adopt, List.toArray, Array.toList, Nat.reduceEqDiff, Nat.reduceAdd, Nat.reduceSub, Nat.reduceMul, Nat.reduceLeDiff, Nat.reduceLT, reduceIte, reduceCtorEq, forall_const, imp_self, Int.reduceNeg, Int.reduceLT, Int.reduceLE, Int.reduceGT, Int.reduceGE, Int.reduceAdd, Int.reduceSub, Int.reduceMul, Int.reduceToNat, Int.reduceEq, ne_eq, eq_self]
theorem c122 (hC : Lib09A C) (ks : List Ky) (hl : ks.length ≤ 100000) (B : Hp) : C 122 [.vec 1 (ks.map D.str) .none] B = some (.bool (allB ks.length (kP ks)), B) := hC.f122 _ _ _ (run122 hC ks hl B)

def seenF (ns : List Int) (k : Nat) : Nat → Bool := fun v => !allB k (fun j => !decide (ns.getD j 0 = (v : Int)))
theorem seenF_upd (ns : List Int) (k m : Nat) (hm : ns.getD k 0 = (m : Int)) : updA (seenF ns k) m true = seenF ns (k + 1) := by
  funext v
  unfold updA seenF
  rw [allB, hm]
  by_cases h : v = m
  · subst h; simp
  · rw [if_neg h, decide_eq_false (by omega)]; simp
def st73 (B : Hp) (ns : List Int) (k : Nat) : St := ⟨[(3, .lptr 0 0), (34, intR ns .none), (35, .int .i64 ns.length), (36, .int .i64 (k : Nat))], [some (bools 1024 (seenF ns k))], [], B⟩

set_option maxRecDepth 20000 in
set_option maxHeartbeats 2000000 in
theorem loop73 (hC : Lib09A C) (B : Hp) (ns : List Int) (hl : ns.length ≤ 1000) (st : St) (hst : an73.at_ (some 5) st = st73 B ns 0) :
    ∃ x st', loopC T an73 C lp73_0 st = some (x, st') ∧ ∃ ρ L, st' = ⟨ρ, L, [], B⟩ ∧ ((x = .exit 0 ∧ allB ns.length (nP ns) = true) ∨ (x = .ret ∧ allB ns.length (nP ns) = false ∧ get ρ 2 = errD 1)) := by
  refine loop_rule (st73 B ns) (fun k => k ≤ ns.length ∧ allB k (nP ns) = true) (fun k => ns.length - k) _ ?_ 0 st hst ⟨Nat.zero_le _, rfl⟩
  rintro k ⟨hk, hI⟩
  rcases Nat.lt_or_ge k ns.length with h | h
  · have g0 : (k : Int) < ns.length := by omega
    have g1 := pnat k
    have w1 : IntKind.i64.wrap ((k : Int) + 1) = ((k + 1 : Nat) : Int) := by rw [wrapI (by omega) (by omega)]; rfl
    have e1 := int_get h
    have c1 := c123 hC (ns.getD k 0)
    cases hp : (decide (2 ≤ ns.getD k 0) && decide (ns.getD k 0 ≤ 1023)) with
    | false =>
      rw [hp] at c1
      have hP : nP ns k = false := by unfold nP; rw [hp]; rfl
      right
      simp only [st73, lp73_0, subC, atC, Tryd.f73, an73, g0, g1, w1, e1, c1, Int.toNat_natCast, AL, T3, T4, T9, T137, T145, T149, T163, T217, EL, e_finWf, e_finWt, e_finMN, e_finMX, retM, meltV, tupV, D.asBox, D.row1, D.freeR, D.freeO, List.replicate_succ, stepD, accs, accP, accW, simpleOp, isAl, isExt, flipD, D.fresh1, D.row, D.plain, D.plain.plainL, St.close, St.close1, St.borrow, retV, resV, resL, outCL, outC, outL, outD, wantedV, opV, An.mid, thawV, St.settle, D.plainU, prune, envOf, get, put, eval, evalT, nz, argsV, capsV, ofV, binV, binV.aggV, unV, intV, eqOp, isConst, natV, optV, loadV, loadC, storeV, setC, St.at_, partV, partTy, indexAddrV, fieldAddrV, sliceV, sliceV.rowSl, sliceV.strSl, bounds, cutP, builtinV, lenV, maxL, maxV, appendV, St.elems, roomy, rowOf, rowS, isStr, esz, tdOf, convV, buildV, fillV, partsV, okParts, fillL, D.whole, D.demoteC, D.demote, demoteL, D.global, D.flat, D.leaf, D.cells, TI.agg, TD.rowish, callOpV, moveL, CC, keepB, St.borrowL, St.borrow, D.isLsl, adoptR, adoptC, adoptCL, adoptL, adopt, List.toArray, Array.toList, Nat.reduceEqDiff, Nat.reduceAdd, Nat.reduceSub, Nat.reduceMul, Nat.reduceLeDiff, Nat.reduceLT, reduceIte, reduceCtorEq, forall_const, imp_self, Int.reduceNeg, Int.reduceLT, Int.reduceLE, Int.reduceGT, Int.reduceGE, Int.reduceAdd, Int.reduceSub, Int.reduceMul, Int.reduceToNat, Int.reduceEq, ne_eq, eq_self]
      exact ⟨_, _, rfl, by simp, _, _, rfl, .inr ⟨rfl, allB_no h hP, rfl⟩⟩
    | true =>
      rw [hp] at c1
      have hin := hp
      simp only [Bool.and_eq_true, decide_eq_true_eq] at hin
      obtain ⟨m, hm⟩ : ∃ m : Nat, ns.getD k 0 = (m : Int) := ⟨(ns.getD k 0).toNat, by omega⟩
      have hm1 : m < 1024 := by omega
      have b1 := bools_get (p := seenF ns k) hm1
      have b2 := bools_set (n := 1024) (p := seenF ns k) (x := true) hm1
      rw [seenF_upd ns k m hm] at b2
      have hP : nP ns k = !seenF ns k m := by
        unfold nP seenF
        rw [hp, Bool.not_not, Bool.true_and]
        exact allB_ext (fun j _ => by rw [hm])
      have g2 := pnat m
      rw [hm] at e1 c1
      cases hs : seenF ns k m <;> rw [hs] at b1 hP
      · left
        refine ⟨k + 1, ?_, ⟨by omega, by rw [allB, hI, hP]; rfl⟩, by omega⟩
        simp only [st73, lp73_0, subC, atC, Tryd.f73, an73, g0, g1, g2, w1, e1, c1, b1, b2, hm1, Int.toNat_natCast, AL, T3, T4, T9, T137, T145, T149, T163, T217, EL, e_finWf, e_finWt, e_finMN, e_finMX, retM, meltV, tupV, D.asBox, D.row1, D.freeR, D.freeO, List.replicate_succ, stepD, accs, accP, accW, simpleOp, isAl, isExt, flipD, D.fresh1, D.row, D.plain, D.plain.plainL, St.close, St.close1, St.borrow, retV, resV, resL, outCL, outC, outL, outD, wantedV, opV, An.mid, thawV, St.settle, D.plainU, prune, envOf, get, put, eval, evalT, nz, argsV, capsV, ofV, binV, binV.aggV, unV, intV, eqOp, isConst, natV, optV, loadV, loadC, storeV, St.at_, partV, partTy, indexAddrV, fieldAddrV, sliceV, sliceV.rowSl, sliceV.strSl, bounds, cutP, builtinV, lenV, maxL, maxV, appendV, St.elems, roomy, rowOf, rowS, isStr, esz, tdOf, convV, buildV, fillV, partsV, okParts, fillL, D.whole, D.demoteC, D.demote, demoteL, D.global, D.flat, D.leaf, D.cells, TI.agg, TD.rowish, callOpV, moveL, CC, keepB, St.borrowL, St.borrow, D.isLsl, adoptR, adoptC, adoptCL, adoptL, adopt, List.toArray, Array.toList, Nat.reduceEqDiff, Nat.reduceAdd, Nat.reduceSub, Nat.reduceMul, Nat.reduceLeDiff, Nat.reduceLT, reduceIte, reduceCtorEq, forall_const, imp_self, Int.reduceNeg, Int.reduceLT, Int.reduceLE, Int.reduceGT, Int.reduceGE, Int.reduceAdd, Int.reduceSub, Int.reduceMul, Int.reduceToNat, Int.reduceEq, ne_eq, eq_self]
        refine ⟨_, rfl, ?_⟩
        show an73.at_ (some 5) _ = _
        simp only [an73, ren_map, toks_map, boxes_map, AL, An.at_, tidyV, tidyW, tidyB, tidyT, sift, envBoxes, envToks, conToks, D.toks, D.tok1, toksL, D.boxes, D.box1, boxesL, memN, posN, renE, D.ren, D.ren1, renL, renB, St.content, St.boxOk, St.tokOk, trues, T3, T4, T9, T137, T145, T149, T163, T217, EL, e_finWf, e_finWt, e_finMN, e_finMX, retM, meltV, tupV, D.asBox, D.row1, D.freeR, D.freeO, List.replicate_succ, stepD, accs, accP, accW, simpleOp, isAl, isExt, flipD, D.fresh1, D.row, D.plain, D.plain.plainL, St.close, St.close1, St.borrow, retV, resV, resL, outCL, outC, outL, outD, wantedV, opV, An.mid, thawV, St.settle, D.plainU, prune, envOf, get, put, eval, evalT, nz, argsV, capsV, ofV, binV, binV.aggV, unV, intV, eqOp, isConst, natV, optV, loadV, loadC, storeV, setC, St.at_, partV, partTy, indexAddrV, fieldAddrV, sliceV, sliceV.rowSl, sliceV.strSl, bounds, cutP, builtinV, lenV, maxL, maxV, appendV, St.elems, roomy, rowOf, rowS, isStr, esz, tdOf, convV, buildV, fillV, partsV, okParts, fillL, D.whole, D.demoteC, D.demote, demoteL, D.global, D.flat, D.leaf, D.cells, TI.agg, TD.rowish, callOpV, moveL, CC, keepB, St.borrowL, St.borrow, D.isLsl, adoptR, adoptC, adoptCL, adoptL, adopt, List.toArray, Array.toList, Nat.reduceEqDiff, Nat.reduceAdd, Nat.reduceSub, Nat.reduceMul, Nat.reduceLeDiff, Nat.reduceLT, reduceIte, reduceCtorEq, forall_const, imp_self, Int.reduceNeg, Int.reduceLT, Int.reduceLE, Int.reduceGT, Int.reduceGE, Int.reduceAdd, Int.reduceSub, Int.reduceMul, Int.reduceToNat, Int.reduceEq, ne_eq, eq_self]
      · right
        simp only [st73, lp73_0, subC, atC, Tryd.f73, an73, g0, g1, g2, w1, e1, c1, b1, hm1, Int.toNat_natCast, AL, T3, T4, T9, T137, T145, T149, T163, T217, EL, e_finWf, e_finWt, e_finMN, e_finMX, retM, meltV, tupV, D.asBox, D.row1, D.freeR, D.freeO, List.replicate_succ, stepD, accs, accP, accW, simpleOp, isAl, isExt, flipD, D.fresh1, D.row, D.plain, D.plain.plainL, St.close, St.close1, St.borrow, retV, resV, resL, outCL, outC, outL, outD, wantedV, opV, An.mid, thawV, St.settle, D.plainU, prune, envOf, get, put, eval, evalT, nz, argsV, capsV, ofV, binV, binV.aggV, unV, intV, eqOp, isConst, natV, optV, loadV, loadC, storeV, St.at_, partV, partTy, indexAddrV, fieldAddrV, sliceV, sliceV.rowSl, sliceV.strSl, bounds, cutP, builtinV, lenV, maxL, maxV, appendV, St.elems, roomy, rowOf, rowS, isStr, esz, tdOf, convV, buildV, fillV, partsV, okParts, fillL, D.whole, D.demoteC, D.demote, demoteL, D.global, D.flat, D.leaf, D.cells, TI.agg, TD.rowish, callOpV, moveL, CC, keepB, St.borrowL, St.borrow, D.isLsl, adoptR, adoptC, adoptCL, adoptL, adopt, List.toArray, Array.toList, Nat.reduceEqDiff, Nat.reduceAdd, Nat.reduceSub, Nat.reduceMul, Nat.reduceLeDiff, Nat.reduceLT, reduceIte, reduceCtorEq, forall_const, imp_self, Int.reduceNeg, Int.reduceLT, Int.reduceLE, Int.reduceGT, Int.reduceGE, Int.reduceAdd, Int.reduceSub, Int.reduceMul, Int.reduceToNat, Int.reduceEq, ne_eq, eq_self]
        exact ⟨_, _, rfl, by simp, _, _, rfl, .inr ⟨rfl, allB_no h hP, rfl⟩⟩
  · right
    obtain rfl : k = ns.length := by omega
    have g0 : ¬ ((ns.length : Nat) : Int) < ns.length := by omega
    simp only [st73, lp73_0, subC, atC, Tryd.f73, an73, g0, T3, T4, T9, T137, T145, T149, T163, T217, EL, e_finWf, e_finWt, e_finMN, e_finMX, retM, meltV, tupV, D.asBox, D.row1, D.freeR, D.freeO, List.replicate_succ, stepD, accs, accP, accW, simpleOp, isAl, isExt, flipD, D.fresh1, D.row, D.plain, D.plain.plainL, St.close, St.close1, St.borrow, retV, resV, resL, outCL, outC, outL, outD, wantedV, opV, An.mid, thawV, St.settle, D.plainU, prune, envOf, get, put, eval, evalT, nz, argsV, capsV, ofV, binV, binV.aggV, unV, intV, eqOp, isConst, natV, optV, loadV, loadC, storeV, setC, St.at_, partV, partTy, indexAddrV, fieldAddrV, sliceV, sliceV.rowSl, sliceV.strSl, bounds, cutP, builtinV, lenV, maxL, maxV, appendV, St.elems, roomy, rowOf, rowS, isStr, esz, tdOf, convV, buildV, fillV, partsV, okParts, fillL, D.whole, D.demoteC, D.demote, demoteL, D.global, D.flat, D.leaf, D.cells, TI.agg, TD.rowish, callOpV, moveL, CC, keepB, St.borrowL, St.borrow, D.isLsl, adoptR, adoptC, adoptCL, adoptL, adopt, List.toArray, Array.toList, Nat.reduceEqDiff, Nat.reduceAdd, Nat.reduceSub, Nat.reduceMul, Nat.reduceLeDiff, Nat.reduceLT, reduceIte, reduceCtorEq, forall_const, imp_self, Int.reduceNeg, Int.reduceLT, Int.reduceLE, Int.reduceGT, Int.reduceGE, Int.reduceAdd, Int.reduceSub, Int.reduceMul, Int.reduceToNat, Int.reduceEq, ne_eq, eq_self]
    exact ⟨_, _, rfl, by simp, _, _, rfl, .inl ⟨rfl, hI⟩⟩

def mayFE (ks : List Ky) (ns : List Int) : Nat := if mayF ks ns = true then 0 else 1
set_option maxRecDepth 20000 in
set_option maxHeartbeats 2000000 in
theorem run73 (hC : Lib09A C) (ks : List Ky) (ns : List Int) (h1 : ks.length ≤ 1000) (h2 : ns.length ≤ 1000) (B : Hp) : runV T C fi73 [.agg [strR ks .none, intR ns .none]] B = some (errD (mayFE ks ns), B) := by
  rw [e_run _ _ _ rfl]
  unfold mayFE mayF
  have w1 : IntKind.i64.wrap ((ks.length : Int) + 1) = ((ks.length + 1 : Nat) : Int) := by rw [wrapI (by omega) (by omega)]; rfl
  have c1 := c122 hC ks (by omega)
  have z1 : ¬ (ns.length : Int) > 1024 := by omega
  by_cases g1 : 1 ≤ ks.length
  · have k1 : ¬ (ks.length : Int) = 0 := by omega
    rw [decide_eq_true g1]
    by_cases g2 : ns.length = ks.length + 1
    · have k2 : (ns.length : Int) = ((ks.length + 1 : Nat) : Int) := by omega
      have z2 : ¬ ((ks.length + 1 : Nat) : Int) > 1024 := by omega
      rw [decide_eq_true g2]
      cases hA : allB ks.length (kP ks) with
      | false =>
        rw [hA] at c1
        simp only [fi73, Tryd.f73, an73, k1, k2, w1, z1, z2, c1, AL, T3, T4, T9, T137, T145, T149, T163, T217, EL, e_finWf, e_finWt, e_finMN, e_finMX, retM, meltV, tupV, D.asBox, D.row1, D.freeR, D.freeO, List.replicate_succ, stepD, accs, accP, accW, simpleOp, isAl, isExt, flipD, D.fresh1, D.row, D.plain, D.plain.plainL, St.close, St.close1, St.borrow, retV, resV, resL, outCL, outC, outL, outD, wantedV, opV, An.mid, thawV, St.settle, D.plainU, prune, envOf, get, put, eval, evalT, nz, argsV, capsV, ofV, binV, binV.aggV, unV, intV, eqOp, isConst, natV, optV, loadV, loadC, storeV, setC, St.at_, partV, partTy, indexAddrV, fieldAddrV, sliceV, sliceV.rowSl, sliceV.strSl, bounds, cutP, builtinV, lenV, maxL, maxV, appendV, St.elems, roomy, rowOf, rowS, isStr, esz, tdOf, convV, buildV, fillV, partsV, okParts, fillL, D.whole, D.demoteC, D.demote, demoteL, D.global, D.flat, D.leaf, D.cells, TI.agg, TD.rowish, callOpV, moveL, CC, keepB, St.borrowL, St.borrow, D.isLsl, adoptR, adoptC, adoptCL, adoptL, adopt, List.toArray, Array.toList, Nat.reduceEqDiff, Nat.reduceAdd, Nat.reduceSub, Nat.reduceMul, Nat.reduceLeDiff, Nat.reduceLT, reduceIte, reduceCtorEq, forall_const, imp_self, Int.reduceNeg, Int.reduceLT, Int.reduceLE, Int.reduceGT, Int.reduceGE, Int.reduceAdd, Int.reduceSub, Int.reduceMul, Int.reduceToNat, Int.reduceEq, ne_eq, eq_self]
        rfl
      | true =>
        rw [hA] at c1
        have lp := loop73 hC B ns h2
        simp only [fi73, Tryd.f73, an73, k1, k2, w1, z1, z2, c1, AL, T3, T4, T9, T137, T145, T149, T163, T217, EL, e_finWf, e_finWt, e_finMN, e_finMX, retM, meltV, tupV, D.asBox, D.row1, D.freeR, D.freeO, List.replicate_succ, stepD, accs, accP, accW, simpleOp, isAl, isExt, flipD, D.fresh1, D.row, D.plain, D.plain.plainL, St.close, St.close1, St.borrow, retV, resV, resL, outCL, outC, outL, outD, wantedV, opV, An.mid, thawV, St.settle, D.plainU, prune, envOf, get, put, eval, evalT, nz, argsV, capsV, ofV, binV, binV.aggV, unV, intV, eqOp, isConst, natV, optV, loadV, loadC, storeV, setC, St.at_, partV, partTy, indexAddrV, fieldAddrV, sliceV, sliceV.rowSl, sliceV.strSl, bounds, cutP, builtinV, lenV, maxL, maxV, appendV, St.elems, roomy, rowOf, rowS, isStr, esz, tdOf, convV, buildV, fillV, partsV, okParts, fillL, D.whole, D.demoteC, D.demote, demoteL, D.global, D.flat, D.leaf, D.cells, TI.agg, TD.rowish, callOpV, moveL, CC, keepB, St.borrowL, St.borrow, D.isLsl, adoptR, adoptC, adoptCL, adoptL, adopt, List.toArray, Array.toList, Nat.reduceEqDiff, Nat.reduceAdd, Nat.reduceSub, Nat.reduceMul, Nat.reduceLeDiff, Nat.reduceLT, reduceIte, reduceCtorEq, forall_const, imp_self, Int.reduceNeg, Int.reduceLT, Int.reduceLE, Int.reduceGT, Int.reduceGE, Int.reduceAdd, Int.reduceSub, Int.reduceMul, Int.reduceToNat, Int.reduceEq, ne_eq, eq_self]
        refine' in_loop (c' := lp73_0) (fin T _ _ _) ?h rfl ?q
        case h =>
          refine lp _ ?_
          simp only [an73, ren_map, toks_map, boxes_map, st73, pz0, k2, AL, An.at_, tidyV, tidyW, tidyB, tidyT, sift, envBoxes, envToks, conToks, D.toks, D.tok1, toksL, D.boxes, D.box1, boxesL, memN, posN, renE, D.ren, D.ren1, renL, renB, St.content, St.boxOk, St.tokOk, trues, T3, T4, T9, T137, T145, T149, T163, T217, EL, e_finWf, e_finWt, e_finMN, e_finMX, retM, meltV, tupV, D.asBox, D.row1, D.freeR, D.freeO, List.replicate_succ, stepD, accs, accP, accW, simpleOp, isAl, isExt, flipD, D.fresh1, D.row, D.plain, D.plain.plainL, St.close, St.close1, St.borrow, retV, resV, resL, outCL, outC, outL, outD, wantedV, opV, An.mid, thawV, St.settle, D.plainU, prune, envOf, get, put, eval, evalT, nz, argsV, capsV, ofV, binV, binV.aggV, unV, intV, eqOp, isConst, natV, optV, loadV, loadC, storeV, setC, St.at_, partV, partTy, indexAddrV, fieldAddrV, sliceV, sliceV.rowSl, sliceV.strSl, bounds, cutP, builtinV, lenV, maxL, maxV, appendV, St.elems, roomy, rowOf, rowS, isStr, esz, tdOf, convV, buildV, fillV, partsV, okParts, fillL, D.whole, D.demoteC, D.demote, demoteL, D.global, D.flat, D.leaf, D.cells, TI.agg, TD.rowish, callOpV, moveL, CC, keepB, St.borrowL, St.borrow, D.isLsl, adoptR, adoptC, adoptCL, adoptL, adopt, List.toArray, Array.toList, Nat.reduceEqDiff, Nat.reduceAdd, Nat.reduceSub, Nat.reduceMul, Nat.reduceLeDiff, Nat.reduceLT, reduceIte, reduceCtorEq, forall_const, imp_self, Int.reduceNeg, Int.reduceLT, Int.reduceLE, Int.reduceGT, Int.reduceGE, Int.reduceAdd, Int.reduceSub, Int.reduceMul, Int.reduceToNat, Int.reduceEq, ne_eq, eq_self]
          all_goals rfl
        rintro x st' ⟨ρ, L, rfl, ⟨rfl, hb⟩ | ⟨rfl, hb, r2⟩⟩
        · rw [hb]
          simp only [T3, T4, T9, T137, T145, T149, T163, T217, EL, e_finWf, e_finWt, e_finMN, e_finMX, retM, meltV, tupV, D.asBox, D.row1, D.freeR, D.freeO, List.replicate_succ, stepD, accs, accP, accW, simpleOp, isAl, isExt, flipD, D.fresh1, D.row, D.plain, D.plain.plainL, St.close, St.close1, St.borrow, retV, resV, resL, outCL, outC, outL, outD, wantedV, opV, An.mid, thawV, St.settle, D.plainU, prune, envOf, get, put, eval, evalT, nz, argsV, capsV, ofV, binV, binV.aggV, unV, intV, eqOp, isConst, natV, optV, loadV, loadC, storeV, setC, St.at_, partV, partTy, indexAddrV, fieldAddrV, sliceV, sliceV.rowSl, sliceV.strSl, bounds, cutP, builtinV, lenV, maxL, maxV, appendV, St.elems, roomy, rowOf, rowS, isStr, esz, tdOf, convV, buildV, fillV, partsV, okParts, fillL, D.whole, D.demoteC, D.demote, demoteL, D.global, D.flat, D.leaf, D.cells, TI.agg, TD.rowish, callOpV, moveL, CC, keepB, St.borrowL, St.borrow, D.isLsl, adoptR, adoptC, adoptCL, adoptL, adopt, List.toArray, Array.toList, Nat.reduceEqDiff, Nat.reduceAdd, Nat.reduceSub, Nat.reduceMul, Nat.reduceLeDiff, Nat.reduceLT, reduceIte, reduceCtorEq, forall_const, imp_self, Int.reduceNeg, Int.reduceLT, Int.reduceLE, Int.reduceGT, Int.reduceGE, Int.reduceAdd, Int.reduceSub, Int.reduceMul, Int.reduceToNat, Int.reduceEq, ne_eq, eq_self]
          rfl
        · rw [hb]
          rw [errD_pos (by decide)] at r2
          simp only [r2, T3, T4, T9, T137, T145, T149, T163, T217, EL, e_finWf, e_finWt, e_finMN, e_finMX, retM, meltV, tupV, D.asBox, D.row1, D.freeR, D.freeO, List.replicate_succ, stepD, accs, accP, accW, simpleOp, isAl, isExt, flipD, D.fresh1, D.row, D.plain, D.plain.plainL, St.close, St.close1, St.borrow, retV, resV, resL, outCL, outC, outL, outD, wantedV, opV, An.mid, thawV, St.settle, D.plainU, prune, envOf, get, put, eval, evalT, nz, argsV, capsV, ofV, binV, binV.aggV, unV, intV, eqOp, isConst, natV, optV, loadV, loadC, storeV, setC, St.at_, partV, partTy, indexAddrV, fieldAddrV, sliceV, sliceV.rowSl, sliceV.strSl, bounds, cutP, builtinV, lenV, maxL, maxV, appendV, St.elems, roomy, rowOf, rowS, isStr, esz, tdOf, convV, buildV, fillV, partsV, okParts, fillL, D.whole, D.demoteC, D.demote, demoteL, D.global, D.flat, D.leaf, D.cells, TI.agg, TD.rowish, callOpV, moveL, CC, keepB, St.borrowL, St.borrow, D.isLsl, adoptR, adoptC, adoptCL, adoptL, adopt, List.toArray, Array.toList, Nat.reduceEqDiff, Nat.reduceAdd, Nat.reduceSub, Nat.reduceMul, Nat.reduceLeDiff, Nat.reduceLT, reduceIte, reduceCtorEq, forall_const, imp_self, Int.reduceNeg, Int.reduceLT, Int.reduceLE, Int.reduceGT, Int.reduceGE, Int.reduceAdd, Int.reduceSub, Int.reduceMul, Int.reduceToNat, Int.reduceEq, ne_eq, eq_self]
          rfl
    · have k2 : ¬ (ns.length : Int) = ((ks.length + 1 : Nat) : Int) := by omega
      rw [decide_eq_false g2]
      simp only [fi73, Tryd.f73, an73, k1, k2, w1, z1, c1, AL, T3, T4, T9, T137, T145, T149, T163, T217, EL, e_finWf, e_finWt, e_finMN, e_finMX, retM, meltV, tupV, D.asBox, D.row1, D.freeR, D.freeO, List.replicate_succ, stepD, accs, accP, accW, simpleOp, isAl, isExt, flipD, D.fresh1, D.row, D.plain, D.plain.plainL, St.close, St.close1, St.borrow, retV, resV, resL, outCL, outC, outL, outD, wantedV, opV, An.mid, thawV, St.settle, D.plainU, prune, envOf, get, put, eval, evalT, nz, argsV, capsV, ofV, binV, binV.aggV, unV, intV, eqOp, isConst, natV, optV, loadV, loadC, storeV, setC, St.at_, partV, partTy, indexAddrV, fieldAddrV, sliceV, sliceV.rowSl, sliceV.strSl, bounds, cutP, builtinV, lenV, maxL, maxV, appendV, St.elems, roomy, rowOf, rowS, isStr, esz, tdOf, convV, buildV, fillV, partsV, okParts, fillL, D.whole, D.demoteC, D.demote, demoteL, D.global, D.flat, D.leaf, D.cells, TI.agg, TD.rowish, callOpV, moveL, CC, keepB, St.borrowL, St.borrow, D.isLsl, adoptR, adoptC, adoptCL, adoptL, adopt, List.toArray, Array.toList, Nat.reduceEqDiff, Nat.reduceAdd, Nat.reduceSub, Nat.reduceMul, Nat.reduceLeDiff, Nat.reduceLT, reduceIte, reduceCtorEq, forall_const, imp_self, Int.reduceNeg, Int.reduceLT, Int.reduceLE, Int.reduceGT, Int.reduceGE, Int.reduceAdd, Int.reduceSub, Int.reduceMul, Int.reduceToNat, Int.reduceEq, ne_eq, eq_self]
      rfl
  · have k1 : (ks.length : Int) = 0 := by omega
    rw [decide_eq_false g1]
    simp only [fi73, Tryd.f73, an73, k1, AL, T3, T4, T9, T137, T145, T149, T163, T217, EL, e_finWf, e_finWt, e_finMN, e_finMX, retM, meltV, tupV, D.asBox, D.row1, D.freeR, D.freeO, List.replicate_succ, stepD, accs, accP, accW, simpleOp, isAl, isExt, flipD, D.fresh1, D.row, D.plain, D.plain.plainL, St.close, St.close1, St.borrow, retV, resV, resL, outCL, outC, outL, outD, wantedV, opV, An.mid, thawV, St.settle, D.plainU, prune, envOf, get, put, eval, evalT, nz, argsV, capsV, ofV, binV, binV.aggV, unV, intV, eqOp, isConst, natV, optV, loadV, loadC, storeV, setC, St.at_, partV, partTy, indexAddrV, fieldAddrV, sliceV, sliceV.rowSl, sliceV.strSl, bounds, cutP, builtinV, lenV, maxL, maxV, appendV, St.elems, roomy, rowOf, rowS, isStr, esz, tdOf, convV, buildV, fillV, partsV, okParts, fillL, D.whole, D.demoteC, D.demote, demoteL, D.global, D.flat, D.leaf, D.cells, TI.agg, TD.rowish, callOpV, moveL, CC, keepB, St.borrowL, St.borrow, D.isLsl, adoptR, adoptC, adoptCL, adoptL, adopt, List.toArray, Array.toList, Nat.reduceEqDiff, Nat.reduceAdd, Nat.reduceSub, Nat.reduceMul, Nat.reduceLeDiff, Nat.reduceLT, reduceIte, reduceCtorEq, forall_const, imp_self, Int.reduceNeg, Int.reduceLT, Int.reduceLE, Int.reduceGT, Int.reduceGE, Int.reduceAdd, Int.reduceSub, Int.reduceMul, Int.reduceToNat, Int.reduceEq, ne_eq, eq_self]
    rfl
theorem c73 (hC : Lib09A C) (ks : List Ky) (ns : List Int) (h1 : ks.length ≤ 1000) (h2 : ns.length ≤ 1000) (B : Hp) : C 73 [.agg [.vec 1 (ks.map D.str) .none, .vec 1 (ns.map iD) .none]] B = some (errD (mayFE ks ns), B) := hC.f73 _ _ _ (run73 hC ks ns h1 h2 B)

end Go.Proofs.YtnhelkclkdfndaaDoor.V
