/-
Layer 6, for other layers: a reader's numbers.
-/
import Derived.Test.YtnhelkclkdfndaaDoorPA
namespace Go.Proofs.YtnhelkclkdfndaaDoor.V
open Go Go.RowKit
set_option linter.unusedSimpArgs false
set_option linter.unusedVariables false

/-! warren/pack.New -/
def an92 : An := ⟨fun _ => .none, fun | 6 => 2 | _ => 0, fun _ => false, fun _ => .none⟩
noncomputable def fi92 : FI := ⟨1, 7, Tryd.f92.body.getD .skip, Tryd.f92.results.toList, an92, false, false, false⟩
theorem ok92 : FnOk Tryd.prog 92 fi92 := ⟨⟨Tryd.f92, Tryd.func92, by kernel_rfl, rfl, rfl, rfl⟩, by decide, by kernel_rfl, fun h => by cases h⟩
/-! (*warren/pack.Reader).fail -/
def an142 : An := ⟨fun _ => .none, fun _ => 0, fun _ => false, fun _ => .none⟩
noncomputable def fi142 : FI := ⟨1, 8, Tryd.f142.body.getD .skip, Tryd.f142.results.toList, an142, false, false, false⟩
theorem ok142 : FnOk Tryd.prog 142 fi142 := ⟨⟨Tryd.f142, Tryd.func142, by kernel_rfl, rfl, rfl, rfl⟩, by decide, by kernel_rfl, fun h => by cases h⟩
/-! (*warren/pack.Reader).Num -/
def an93 : An := ⟨fun _ => .none, fun _ => 0, fun _ => false, fun _ => .none⟩
noncomputable def fi93 : FI := ⟨2, 38, Tryd.f93.body.getD .skip, Tryd.f93.results.toList, an93, false, false, false⟩
theorem ok93 : FnOk Tryd.prog 93 fi93 := ⟨⟨Tryd.f93, Tryd.func93, by kernel_rfl, rfl, rfl, rfl⟩, by decide, by kernel_rfl, fun h => by cases h⟩
/-! (*warren/pack.Reader).Done -/
def an94 : An := ⟨fun _ => .none, fun _ => 0, fun _ => false, fun _ => .none⟩
noncomputable def fi94 : FI := ⟨1, 20, Tryd.f94.body.getD .skip, Tryd.f94.results.toList, an94, false, false, false⟩
theorem ok94 : FnOk Tryd.prog 94 fi94 := ⟨⟨Tryd.f94, Tryd.func94, by kernel_rfl, rfl, rfl, rfl⟩, by decide, by kernel_rfl, fun h => by cases h⟩
/-! warren/pack.Num -/
def an87 : An := ⟨fun _ => .none, fun _ => 0, fun _ => false, fun _ => .none⟩
noncomputable def fi87 : FI := ⟨2, 8, Tryd.f87.body.getD .skip, Tryd.f87.results.toList, an87, false, false, false⟩
theorem ok87 : FnOk Tryd.prog 87 fi87 := ⟨⟨Tryd.f87, Tryd.func87, by kernel_rfl, rfl, rfl, rfl⟩, by decide, by kernel_rfl, fun h => by cases h⟩
/-! warren/warrenref06.Num -/
def an96 : An := ⟨fun _ => .none, fun _ => 0, fun _ => false, fun _ => .none⟩
noncomputable def fi96 : FI := ⟨2, 30, Tryd.f96.body.getD .skip, Tryd.f96.results.toList, an96, false, false, false⟩
theorem ok96 : FnOk Tryd.prog 96 fi96 := ⟨⟨Tryd.f96, Tryd.func96, by kernel_rfl, rfl, rfl, rfl⟩, by decide, by kernel_rfl, fun h => by cases h⟩
structure LibPack (C : Callees) : Prop extends LibVar C where
  f92 : Has T C 92 fi92
  f142 : Has T C 142 fi142
  f93 : Has T C 93 fi93
  f94 : Has T C 94 fi94
  f87 : Has T C 87 fi87
  f96 : Has T C 96 fi96

variable {C : Callees}

theorem pz0 : ((0 : Nat) : Int) = 0 := rfl
theorem pnat (a : Nat) : (0 : Int) ≤ (a : Int) := Int.natCast_nonneg a

set_option maxRecDepth 10000 in
theorem run92 (hC : LibPack C) (l : List UInt8) (hl : l.length ≤ 1000000) : runV T C fi92 [bvV l .none] [] = some (.bptr 0 0, [rdD (some l)]) := by
  rw [e_run _ _ _ rfl]
  have c1 := hC.vclone l
  simp only [fi92, Tryd.f92, an92, c1 _ hl, rdD, T4, T5, T68, T243, EL, e_finWf, e_finWt, e_finMN, e_finMX, retM, meltV, tupV, D.asBox, D.row1, D.freeR, D.freeO, List.replicate_succ, stepD, accs, accP, accW, simpleOp, isAl, isExt, flipD, D.fresh1, D.row, D.plain, D.plain.plainL, St.close, St.close1, St.borrow, retV, resV, resL, outCL, outC, outL, outD, wantedV, opV, An.mid, thawV, St.settle, D.plainU, prune, envOf, get, put, eval, evalT, nz, argsV, capsV, ofV, binV, binV.aggV, unV, intV, eqOp, isConst, natV, optV, loadV, loadC, storeV, setC, St.at_, partV, partTy, indexAddrV, fieldAddrV, sliceV, sliceV.rowSl, sliceV.strSl, bounds, cutP, builtinV, lenV, maxL, maxV, appendV, St.elems, roomy, rowOf, rowS, isStr, esz, tdOf, convV, buildV, fillV, partsV, okParts, fillL, D.whole, D.demoteC, D.demote, demoteL, D.global, D.flat, D.leaf, D.cells, TI.agg, TD.rowish, callOpV, moveL, CC, keepB, St.borrowL, St.borrow, D.isLsl, adoptR, adoptC, adoptCL, adoptL, adopt, List.toArray, Array.toList, Nat.reduceEqDiff, Nat.reduceAdd, Nat.reduceSub, Nat.reduceMul, Nat.reduceLeDiff, Nat.reduceLT, reduceIte, reduceCtorEq, forall_const, imp_self, Int.reduceNeg, Int.reduceLT, Int.reduceLE, Int.reduceGT, Int.reduceGE, Int.reduceAdd, Int.reduceSub, Int.reduceMul, Int.reduceToNat, Int.reduceEq, ne_eq, eq_self]
theorem c92 (hC : LibPack C) (l : List UInt8) (hl : l.length ≤ 1000000) : C 92 [.vec 1 (l.map byteD) .none] [] = some (.bptr 0 0, [rdD (some l)]) := hC.f92 _ _ _ (run92 hC l hl)

set_option maxRecDepth 10000 in
theorem run142 (C : Callees) (s : RS) : runV T C fi142 [.bptr 0 0] [rdD s] = some (.tuple [], [rdD .none]) := by
  rw [e_run _ _ _ rfl]
  cases s <;>
  simp only [fi142, Tryd.f142, an142, rdD, T4, T5, T68, T243, EL, e_finWf, e_finWt, e_finMN, e_finMX, retM, meltV, tupV, D.asBox, D.row1, D.freeR, D.freeO, List.replicate_succ, stepD, accs, accP, accW, simpleOp, isAl, isExt, flipD, D.fresh1, D.row, D.plain, D.plain.plainL, St.close, St.close1, St.borrow, retV, resV, resL, outCL, outC, outL, outD, wantedV, opV, An.mid, thawV, St.settle, D.plainU, prune, envOf, get, put, eval, evalT, nz, argsV, capsV, ofV, binV, binV.aggV, unV, intV, eqOp, isConst, natV, optV, loadV, loadC, storeV, setC, St.at_, partV, partTy, indexAddrV, fieldAddrV, sliceV, sliceV.rowSl, sliceV.strSl, bounds, cutP, builtinV, lenV, maxL, maxV, appendV, St.elems, roomy, rowOf, rowS, isStr, esz, tdOf, convV, buildV, fillV, partsV, okParts, fillL, D.whole, D.demoteC, D.demote, demoteL, D.global, D.flat, D.leaf, D.cells, TI.agg, TD.rowish, callOpV, moveL, CC, keepB, St.borrowL, St.borrow, D.isLsl, adoptR, adoptC, adoptCL, adoptL, adopt, List.toArray, Array.toList, Nat.reduceEqDiff, Nat.reduceAdd, Nat.reduceSub, Nat.reduceMul, Nat.reduceLeDiff, Nat.reduceLT, reduceIte, reduceCtorEq, forall_const, imp_self, Int.reduceNeg, Int.reduceLT, Int.reduceLE, Int.reduceGT, Int.reduceGE, Int.reduceAdd, Int.reduceSub, Int.reduceMul, Int.reduceToNat, Int.reduceEq, ne_eq, eq_self]
theorem c142 (hC : LibPack C) (s : RS) : C 142 [.bptr 0 0] [rdD s] = some (.tuple [], [rdD .none]) := hC.f142 _ _ _ (run142 C s)

set_option maxRecDepth 10000 in
theorem run93 (hC : LibPack C) (s : RS) (m : Nat) (hs : ∀ l, s = some l → l.length ≤ 1000000) : runV T C fi93 [.bptr 0 0, .int .u64 (m : Nat)] [rdD s] = some (.int .u64 ((numP s m).2 : Nat), [rdD (numP s m).1]) := by
  rw [e_run _ _ _ rfl]
  cases s with
  | none =>
    have c0 := c142 hC .none
    have c1 : ∀ B, C 141 [.vec 1 [] .none] B = some (.tuple [.int .u64 0, .int .i64 0, .iface 163 (.int .i64 6)], B) := fun B => c141 hC.toLibVar [] B
    unfold rdD at c0 ⊢
    simp only [fi93, Tryd.f93, an93, c0, c1, numP, pz0, T4, T5, T22, T33, T68, T181, T243, EL, e_finWf, e_finWt, e_finMN, e_finMX, retM, meltV, tupV, D.asBox, D.row1, D.freeR, D.freeO, List.replicate_succ, stepD, accs, accP, accW, simpleOp, isAl, isExt, flipD, D.fresh1, D.row, D.plain, D.plain.plainL, St.close, St.close1, St.borrow, retV, resV, resL, outCL, outC, outL, outD, wantedV, opV, An.mid, thawV, St.settle, D.plainU, prune, envOf, get, put, eval, evalT, nz, argsV, capsV, ofV, binV, binV.aggV, unV, intV, eqOp, isConst, natV, optV, loadV, loadC, storeV, setC, St.at_, partV, partTy, indexAddrV, fieldAddrV, sliceV, sliceV.rowSl, sliceV.strSl, bounds, cutP, builtinV, lenV, maxL, maxV, appendV, St.elems, roomy, rowOf, rowS, isStr, esz, tdOf, convV, buildV, fillV, partsV, okParts, fillL, D.whole, D.demoteC, D.demote, demoteL, D.global, D.flat, D.leaf, D.cells, TI.agg, TD.rowish, callOpV, moveL, CC, keepB, St.borrowL, St.borrow, D.isLsl, adoptR, adoptC, adoptCL, adoptL, adopt, List.toArray, Array.toList, Nat.reduceEqDiff, Nat.reduceAdd, Nat.reduceSub, Nat.reduceMul, Nat.reduceLeDiff, Nat.reduceLT, reduceIte, reduceCtorEq, forall_const, imp_self, Int.reduceNeg, Int.reduceLT, Int.reduceLE, Int.reduceGT, Int.reduceGE, Int.reduceAdd, Int.reduceSub, Int.reduceMul, Int.reduceToNat, Int.reduceEq, ne_eq, eq_self]
  | some l =>
    have hl := hs l rfl
    have c0 := c142 hC (some l)
    have c1 := c141 hC.toLibVar l
    have hb := vget_bnd l 0 0 (by omega) (by omega)
    unfold getD3 at c1
    simp only [numP]
    unfold numS
    unfold rdD at c0 ⊢
    simp only at c0 ⊢
    obtain ⟨b1, b2, b3, b4⟩ := hb
    generalize (vgetS l 0 0).1 = v at c1 b1
    generalize (vgetS l 0 0).2.1 = n at c1 b2 b3 b4
    generalize (vgetS l 0 0).2.2 = e at c1 b4
    by_cases h0 : e = 0
    · subst h0
      simp only [errD_zero] at c1
      by_cases h1 : v ≤ m
      · have g1 : ¬ (v : Int) > m := by omega
        have g2 := pnat n
        have g3 : n ≤ l.length := by omega
        rw [if_pos ⟨rfl, h1⟩]
        simp only [fi93, Tryd.f93, an93, c1, g1, g2, g3, Int.toNat_natCast, List.take_length, T4, T5, T22, T33, T68, T181, T243, EL, e_finWf, e_finWt, e_finMN, e_finMX, retM, meltV, tupV, D.asBox, D.row1, D.freeR, D.freeO, List.replicate_succ, stepD, accs, accP, accW, simpleOp, isAl, isExt, flipD, D.fresh1, D.row, D.plain, D.plain.plainL, St.close, St.close1, St.borrow, retV, resV, resL, outCL, outC, outL, outD, wantedV, opV, An.mid, thawV, St.settle, D.plainU, prune, envOf, get, put, eval, evalT, nz, argsV, capsV, ofV, binV, binV.aggV, unV, intV, eqOp, isConst, natV, optV, loadV, loadC, storeV, setC, St.at_, partV, partTy, indexAddrV, fieldAddrV, sliceV, sliceV.rowSl, sliceV.strSl, bounds, cutP, builtinV, lenV, maxL, maxV, appendV, St.elems, roomy, rowOf, rowS, isStr, esz, tdOf, convV, buildV, fillV, partsV, okParts, fillL, D.whole, D.demoteC, D.demote, demoteL, D.global, D.flat, D.leaf, D.cells, TI.agg, TD.rowish, callOpV, moveL, CC, keepB, St.borrowL, St.borrow, D.isLsl, adoptR, adoptC, adoptCL, adoptL, adopt, List.toArray, Array.toList, Nat.reduceEqDiff, Nat.reduceAdd, Nat.reduceSub, Nat.reduceMul, Nat.reduceLeDiff, Nat.reduceLT, reduceIte, reduceCtorEq, forall_const, imp_self, Int.reduceNeg, Int.reduceLT, Int.reduceLE, Int.reduceGT, Int.reduceGE, Int.reduceAdd, Int.reduceSub, Int.reduceMul, Int.reduceToNat, Int.reduceEq, ne_eq, eq_self]
      · have g1 : (v : Int) > m := by omega
        rw [if_neg (fun h => h1 h.2)]
        simp only [fi93, Tryd.f93, an93, c0, c1, g1, T4, T5, T22, T33, T68, T181, T243, EL, e_finWf, e_finWt, e_finMN, e_finMX, retM, meltV, tupV, D.asBox, D.row1, D.freeR, D.freeO, List.replicate_succ, stepD, accs, accP, accW, simpleOp, isAl, isExt, flipD, D.fresh1, D.row, D.plain, D.plain.plainL, St.close, St.close1, St.borrow, retV, resV, resL, outCL, outC, outL, outD, wantedV, opV, An.mid, thawV, St.settle, D.plainU, prune, envOf, get, put, eval, evalT, nz, argsV, capsV, ofV, binV, binV.aggV, unV, intV, eqOp, isConst, natV, optV, loadV, loadC, storeV, setC, St.at_, partV, partTy, indexAddrV, fieldAddrV, sliceV, sliceV.rowSl, sliceV.strSl, bounds, cutP, builtinV, lenV, maxL, maxV, appendV, St.elems, roomy, rowOf, rowS, isStr, esz, tdOf, convV, buildV, fillV, partsV, okParts, fillL, D.whole, D.demoteC, D.demote, demoteL, D.global, D.flat, D.leaf, D.cells, TI.agg, TD.rowish, callOpV, moveL, CC, keepB, St.borrowL, St.borrow, D.isLsl, adoptR, adoptC, adoptCL, adoptL, adopt, List.toArray, Array.toList, Nat.reduceEqDiff, Nat.reduceAdd, Nat.reduceSub, Nat.reduceMul, Nat.reduceLeDiff, Nat.reduceLT, reduceIte, reduceCtorEq, forall_const, imp_self, Int.reduceNeg, Int.reduceLT, Int.reduceLE, Int.reduceGT, Int.reduceGE, Int.reduceAdd, Int.reduceSub, Int.reduceMul, Int.reduceToNat, Int.reduceEq, ne_eq, eq_self]
        rfl
    · rw [errD_pos h0] at c1
      rw [if_neg (fun h => h0 h.1)]
      simp only [fi93, Tryd.f93, an93, c0, c1, T4, T5, T22, T33, T68, T181, T243, EL, e_finWf, e_finWt, e_finMN, e_finMX, retM, meltV, tupV, D.asBox, D.row1, D.freeR, D.freeO, List.replicate_succ, stepD, accs, accP, accW, simpleOp, isAl, isExt, flipD, D.fresh1, D.row, D.plain, D.plain.plainL, St.close, St.close1, St.borrow, retV, resV, resL, outCL, outC, outL, outD, wantedV, opV, An.mid, thawV, St.settle, D.plainU, prune, envOf, get, put, eval, evalT, nz, argsV, capsV, ofV, binV, binV.aggV, unV, intV, eqOp, isConst, natV, optV, loadV, loadC, storeV, setC, St.at_, partV, partTy, indexAddrV, fieldAddrV, sliceV, sliceV.rowSl, sliceV.strSl, bounds, cutP, builtinV, lenV, maxL, maxV, appendV, St.elems, roomy, rowOf, rowS, isStr, esz, tdOf, convV, buildV, fillV, partsV, okParts, fillL, D.whole, D.demoteC, D.demote, demoteL, D.global, D.flat, D.leaf, D.cells, TI.agg, TD.rowish, callOpV, moveL, CC, keepB, St.borrowL, St.borrow, D.isLsl, adoptR, adoptC, adoptCL, adoptL, adopt, List.toArray, Array.toList, Nat.reduceEqDiff, Nat.reduceAdd, Nat.reduceSub, Nat.reduceMul, Nat.reduceLeDiff, Nat.reduceLT, reduceIte, reduceCtorEq, forall_const, imp_self, Int.reduceNeg, Int.reduceLT, Int.reduceLE, Int.reduceGT, Int.reduceGE, Int.reduceAdd, Int.reduceSub, Int.reduceMul, Int.reduceToNat, Int.reduceEq, ne_eq, eq_self]
      rfl
theorem c93 (hC : LibPack C) (s : RS) (m : Nat) (hs : ∀ l, s = some l → l.length ≤ 1000000) : C 93 [.bptr 0 0, .int .u64 (m : Nat)] [rdD s] = some (.int .u64 ((numP s m).2 : Nat), [rdD (numP s m).1]) := hC.f93 _ _ _ (run93 hC s m hs)

def doneE : RS → Nat
  | some [] => 0
  | _ => 3
set_option maxRecDepth 10000 in
theorem run94 (C : Callees) (s : RS) : runV T C fi94 [.bptr 0 0] [rdD s] = some (errD (doneE s), [rdD s]) := by
  rw [e_run _ _ _ rfl]
  rcases s with _ | _ | ⟨c, l⟩
  · unfold rdD
    simp only [fi94, Tryd.f94, an94, pz0, T3, T4, T5, T68, T163, T181, T243, EL, e_finWf, e_finWt, e_finMN, e_finMX, retM, meltV, tupV, D.asBox, D.row1, D.freeR, D.freeO, List.replicate_succ, stepD, accs, accP, accW, simpleOp, isAl, isExt, flipD, D.fresh1, D.row, D.plain, D.plain.plainL, St.close, St.close1, St.borrow, retV, resV, resL, outCL, outC, outL, outD, wantedV, opV, An.mid, thawV, St.settle, D.plainU, prune, envOf, get, put, eval, evalT, nz, argsV, capsV, ofV, binV, binV.aggV, unV, intV, eqOp, isConst, natV, optV, loadV, loadC, storeV, setC, St.at_, partV, partTy, indexAddrV, fieldAddrV, sliceV, sliceV.rowSl, sliceV.strSl, bounds, cutP, builtinV, lenV, maxL, maxV, appendV, St.elems, roomy, rowOf, rowS, isStr, esz, tdOf, convV, buildV, fillV, partsV, okParts, fillL, D.whole, D.demoteC, D.demote, demoteL, D.global, D.flat, D.leaf, D.cells, TI.agg, TD.rowish, callOpV, moveL, CC, keepB, St.borrowL, St.borrow, D.isLsl, adoptR, adoptC, adoptCL, adoptL, adopt, List.toArray, Array.toList, Nat.reduceEqDiff, Nat.reduceAdd, Nat.reduceSub, Nat.reduceMul, Nat.reduceLeDiff, Nat.reduceLT, reduceIte, reduceCtorEq, forall_const, imp_self, Int.reduceNeg, Int.reduceLT, Int.reduceLE, Int.reduceGT, Int.reduceGE, Int.reduceAdd, Int.reduceSub, Int.reduceMul, Int.reduceToNat, Int.reduceEq, ne_eq, eq_self]
    rfl
  · unfold rdD
    have h0 : ¬ (0 : Int) > 0 := by decide
    simp only [fi94, Tryd.f94, an94, pz0, h0, T3, T4, T5, T68, T163, T181, T243, EL, e_finWf, e_finWt, e_finMN, e_finMX, retM, meltV, tupV, D.asBox, D.row1, D.freeR, D.freeO, List.replicate_succ, stepD, accs, accP, accW, simpleOp, isAl, isExt, flipD, D.fresh1, D.row, D.plain, D.plain.plainL, St.close, St.close1, St.borrow, retV, resV, resL, outCL, outC, outL, outD, wantedV, opV, An.mid, thawV, St.settle, D.plainU, prune, envOf, get, put, eval, evalT, nz, argsV, capsV, ofV, binV, binV.aggV, unV, intV, eqOp, isConst, natV, optV, loadV, loadC, storeV, setC, St.at_, partV, partTy, indexAddrV, fieldAddrV, sliceV, sliceV.rowSl, sliceV.strSl, bounds, cutP, builtinV, lenV, maxL, maxV, appendV, St.elems, roomy, rowOf, rowS, isStr, esz, tdOf, convV, buildV, fillV, partsV, okParts, fillL, D.whole, D.demoteC, D.demote, demoteL, D.global, D.flat, D.leaf, D.cells, TI.agg, TD.rowish, callOpV, moveL, CC, keepB, St.borrowL, St.borrow, D.isLsl, adoptR, adoptC, adoptCL, adoptL, adopt, List.toArray, Array.toList, Nat.reduceEqDiff, Nat.reduceAdd, Nat.reduceSub, Nat.reduceMul, Nat.reduceLeDiff, Nat.reduceLT, reduceIte, reduceCtorEq, forall_const, imp_self, Int.reduceNeg, Int.reduceLT, Int.reduceLE, Int.reduceGT, Int.reduceGE, Int.reduceAdd, Int.reduceSub, Int.reduceMul, Int.reduceToNat, Int.reduceEq, ne_eq, eq_self]
    rfl
  · unfold rdD
    have h0 : ((l.length + 1 : Nat) : Int) > 0 := by omega
    simp only [fi94, Tryd.f94, an94, pz0, h0, T3, T4, T5, T68, T163, T181, T243, EL, e_finWf, e_finWt, e_finMN, e_finMX, retM, meltV, tupV, D.asBox, D.row1, D.freeR, D.freeO, List.replicate_succ, stepD, accs, accP, accW, simpleOp, isAl, isExt, flipD, D.fresh1, D.row, D.plain, D.plain.plainL, St.close, St.close1, St.borrow, retV, resV, resL, outCL, outC, outL, outD, wantedV, opV, An.mid, thawV, St.settle, D.plainU, prune, envOf, get, put, eval, evalT, nz, argsV, capsV, ofV, binV, binV.aggV, unV, intV, eqOp, isConst, natV, optV, loadV, loadC, storeV, setC, St.at_, partV, partTy, indexAddrV, fieldAddrV, sliceV, sliceV.rowSl, sliceV.strSl, bounds, cutP, builtinV, lenV, maxL, maxV, appendV, St.elems, roomy, rowOf, rowS, isStr, esz, tdOf, convV, buildV, fillV, partsV, okParts, fillL, D.whole, D.demoteC, D.demote, demoteL, D.global, D.flat, D.leaf, D.cells, TI.agg, TD.rowish, callOpV, moveL, CC, keepB, St.borrowL, St.borrow, D.isLsl, adoptR, adoptC, adoptCL, adoptL, adopt, List.toArray, Array.toList, Nat.reduceEqDiff, Nat.reduceAdd, Nat.reduceSub, Nat.reduceMul, Nat.reduceLeDiff, Nat.reduceLT, reduceIte, reduceCtorEq, forall_const, imp_self, Int.reduceNeg, Int.reduceLT, Int.reduceLE, Int.reduceGT, Int.reduceGE, Int.reduceAdd, Int.reduceSub, Int.reduceMul, Int.reduceToNat, Int.reduceEq, ne_eq, eq_self]
    rfl
theorem c94 (hC : LibPack C) (s : RS) : C 94 [.bptr 0 0] [rdD s] = some (errD (doneE s), [rdD s]) := hC.f94 _ _ _ (run94 C s)

set_option maxRecDepth 10000 in
theorem run87 (hC : LibPack C) (l : List UInt8) (v : Nat) (hv : v < 18446744073709551616) (hl : l.length ≤ 900000) (B : Hp) : runV T C fi87 [bvV l .none, .int .u64 v] B = some (.vec 1 ((l ++ vputS v).map byteD) .fresh, B) := by
  rw [e_run _ _ _ rfl]
  have c1 := c134 hC.toLibVar l v hv hl
  simp only [fi87, Tryd.f87, an87, c1, EL, e_finWf, e_finWt, e_finMN, e_finMX, retM, meltV, tupV, D.asBox, D.row1, D.freeR, D.freeO, List.replicate_succ, stepD, accs, accP, accW, simpleOp, isAl, isExt, flipD, D.fresh1, D.row, D.plain, D.plain.plainL, St.close, St.close1, St.borrow, retV, resV, resL, outCL, outC, outL, outD, wantedV, opV, An.mid, thawV, St.settle, D.plainU, prune, envOf, get, put, eval, evalT, nz, argsV, capsV, ofV, binV, binV.aggV, unV, intV, eqOp, isConst, natV, optV, loadV, loadC, storeV, setC, St.at_, partV, partTy, indexAddrV, fieldAddrV, sliceV, sliceV.rowSl, sliceV.strSl, bounds, cutP, builtinV, lenV, maxL, maxV, appendV, St.elems, roomy, rowOf, rowS, isStr, esz, tdOf, convV, buildV, fillV, partsV, okParts, fillL, D.whole, D.demoteC, D.demote, demoteL, D.global, D.flat, D.leaf, D.cells, TI.agg, TD.rowish, callOpV, moveL, CC, keepB, St.borrowL, St.borrow, D.isLsl, adoptR, adoptC, adoptCL, adoptL, adopt, List.toArray, Array.toList, Nat.reduceEqDiff, Nat.reduceAdd, Nat.reduceSub, Nat.reduceMul, Nat.reduceLeDiff, Nat.reduceLT, reduceIte, reduceCtorEq, forall_const, imp_self, Int.reduceNeg, Int.reduceLT, Int.reduceLE, Int.reduceGT, Int.reduceGE, Int.reduceAdd, Int.reduceSub, Int.reduceMul, Int.reduceToNat, Int.reduceEq, ne_eq, eq_self]
theorem c87 (hC : LibPack C) (l : List UInt8) (v : Nat) (hv : v < 18446744073709551616) (hl : l.length ≤ 900000) (B : Hp) : C 87 [.vec 1 (l.map byteD) .none, .int .u64 v] B = some (.vec 1 ((l ++ vputS v).map byteD) .fresh, B) := hC.f87 _ _ _ (run87 hC l v hv hl B)

/-! ### The document's reader -/
def rfD : RS → D
  | some l => .agg [.vec 1 (l.map byteD) .none, .bool false]
  | .none => .agg [.vec 1 [] .fresh, .bool true]

set_option maxRecDepth 10000 in
theorem run96 (hC : LibPack C) (l : List UInt8) (w : Bool) (m : Nat) (hl : l.length ≤ 1000000) (B : Hp) : runV T C fi96 [.agg [.vec 1 (l.map byteD) .none, .bool w], .int .u64 (m : Nat)] B = some (.tuple [rfD (numS l m).1, .int .u64 ((numS l m).2 : Nat)], B) := by
  rw [e_run _ _ _ rfl]
  have c1 : ∀ B, C 144 [.vec 1 (l.map byteD) .none] B = some (.tuple [.int .u64 (vgetS l 0 0).1, .int .i64 (vgetS l 0 0).2.1, .int .i64 (vgetS l 0 0).2.2], B) := fun B => by
    have := c144 hC.toLibVar l B hl
    rw [this, refD, vgetS_ref]
  obtain ⟨b1, b2, b3, b4⟩ := vget_bnd l 0 0 (by omega) (by omega)
  unfold numS
  generalize (vgetS l 0 0).1 = v at c1 b1
  generalize (vgetS l 0 0).2.1 = n at c1 b2 b3 b4
  generalize (vgetS l 0 0).2.2 = e at c1 b4
  by_cases h0 : e = 0
  · subst h0
    by_cases h1 : v ≤ m
    · have g1 : ¬ (v : Int) > m := by omega
      have g2 := pnat n
      have g3 : n ≤ l.length := by omega
      rw [if_pos ⟨rfl, h1⟩]
      simp only [fi96, Tryd.f96, an96, c1, g1, g2, g3, pz0, rfD, Int.toNat_natCast, List.take_length, T3, T4, T5, T22, T68, T188, EL, e_finWf, e_finWt, e_finMN, e_finMX, retM, meltV, tupV, D.asBox, D.row1, D.freeR, D.freeO, List.replicate_succ, stepD, accs, accP, accW, simpleOp, isAl, isExt, flipD, D.fresh1, D.row, D.plain, D.plain.plainL, St.close, St.close1, St.borrow, retV, resV, resL, outCL, outC, outL, outD, wantedV, opV, An.mid, thawV, St.settle, D.plainU, prune, envOf, get, put, eval, evalT, nz, argsV, capsV, ofV, binV, binV.aggV, unV, intV, eqOp, isConst, natV, optV, loadV, loadC, storeV, setC, St.at_, partV, partTy, indexAddrV, fieldAddrV, sliceV, sliceV.rowSl, sliceV.strSl, bounds, cutP, builtinV, lenV, maxL, maxV, appendV, St.elems, roomy, rowOf, rowS, isStr, esz, tdOf, convV, buildV, fillV, partsV, okParts, fillL, D.whole, D.demoteC, D.demote, demoteL, D.global, D.flat, D.leaf, D.cells, TI.agg, TD.rowish, callOpV, moveL, CC, keepB, St.borrowL, St.borrow, D.isLsl, adoptR, adoptC, adoptCL, adoptL, adopt, List.toArray, Array.toList, Nat.reduceEqDiff, Nat.reduceAdd, Nat.reduceSub, Nat.reduceMul, Nat.reduceLeDiff, Nat.reduceLT, reduceIte, reduceCtorEq, forall_const, imp_self, Int.reduceNeg, Int.reduceLT, Int.reduceLE, Int.reduceGT, Int.reduceGE, Int.reduceAdd, Int.reduceSub, Int.reduceMul, Int.reduceToNat, Int.reduceEq, ne_eq, eq_self]
    · have g1 : (v : Int) > m := by omega
      rw [if_neg (fun h => h1 h.2)]
      simp only [fi96, Tryd.f96, an96, c1, g1, pz0, rfD, T3, T4, T5, T22, T68, T188, EL, e_finWf, e_finWt, e_finMN, e_finMX, retM, meltV, tupV, D.asBox, D.row1, D.freeR, D.freeO, List.replicate_succ, stepD, accs, accP, accW, simpleOp, isAl, isExt, flipD, D.fresh1, D.row, D.plain, D.plain.plainL, St.close, St.close1, St.borrow, retV, resV, resL, outCL, outC, outL, outD, wantedV, opV, An.mid, thawV, St.settle, D.plainU, prune, envOf, get, put, eval, evalT, nz, argsV, capsV, ofV, binV, binV.aggV, unV, intV, eqOp, isConst, natV, optV, loadV, loadC, storeV, setC, St.at_, partV, partTy, indexAddrV, fieldAddrV, sliceV, sliceV.rowSl, sliceV.strSl, bounds, cutP, builtinV, lenV, maxL, maxV, appendV, St.elems, roomy, rowOf, rowS, isStr, esz, tdOf, convV, buildV, fillV, partsV, okParts, fillL, D.whole, D.demoteC, D.demote, demoteL, D.global, D.flat, D.leaf, D.cells, TI.agg, TD.rowish, callOpV, moveL, CC, keepB, St.borrowL, St.borrow, D.isLsl, adoptR, adoptC, adoptCL, adoptL, adopt, List.toArray, Array.toList, Nat.reduceEqDiff, Nat.reduceAdd, Nat.reduceSub, Nat.reduceMul, Nat.reduceLeDiff, Nat.reduceLT, reduceIte, reduceCtorEq, forall_const, imp_self, Int.reduceNeg, Int.reduceLT, Int.reduceLE, Int.reduceGT, Int.reduceGE, Int.reduceAdd, Int.reduceSub, Int.reduceMul, Int.reduceToNat, Int.reduceEq, ne_eq, eq_self]
  · have g0 : ¬ (e : Int) = 0 := by omega
    rw [if_neg (fun h => h0 h.1)]
    simp only [fi96, Tryd.f96, an96, c1, g0, pz0, rfD, T3, T4, T5, T22, T68, T188, EL, e_finWf, e_finWt, e_finMN, e_finMX, retM, meltV, tupV, D.asBox, D.row1, D.freeR, D.freeO, List.replicate_succ, stepD, accs, accP, accW, simpleOp, isAl, isExt, flipD, D.fresh1, D.row, D.plain, D.plain.plainL, St.close, St.close1, St.borrow, retV, resV, resL, outCL, outC, outL, outD, wantedV, opV, An.mid, thawV, St.settle, D.plainU, prune, envOf, get, put, eval, evalT, nz, argsV, capsV, ofV, binV, binV.aggV, unV, intV, eqOp, isConst, natV, optV, loadV, loadC, storeV, setC, St.at_, partV, partTy, indexAddrV, fieldAddrV, sliceV, sliceV.rowSl, sliceV.strSl, bounds, cutP, builtinV, lenV, maxL, maxV, appendV, St.elems, roomy, rowOf, rowS, isStr, esz, tdOf, convV, buildV, fillV, partsV, okParts, fillL, D.whole, D.demoteC, D.demote, demoteL, D.global, D.flat, D.leaf, D.cells, TI.agg, TD.rowish, callOpV, moveL, CC, keepB, St.borrowL, St.borrow, D.isLsl, adoptR, adoptC, adoptCL, adoptL, adopt, List.toArray, Array.toList, Nat.reduceEqDiff, Nat.reduceAdd, Nat.reduceSub, Nat.reduceMul, Nat.reduceLeDiff, Nat.reduceLT, reduceIte, reduceCtorEq, forall_const, imp_self, Int.reduceNeg, Int.reduceLT, Int.reduceLE, Int.reduceGT, Int.reduceGE, Int.reduceAdd, Int.reduceSub, Int.reduceMul, Int.reduceToNat, Int.reduceEq, ne_eq, eq_self]
theorem c96 (hC : LibPack C) (l : List UInt8) (w : Bool) (m : Nat) (hl : l.length ≤ 1000000) (B : Hp) : C 96 [.agg [.vec 1 (l.map byteD) .none, .bool w], .int .u64 (m : Nat)] B = some (.tuple [rfD (numS l m).1, .int .u64 ((numS l m).2 : Nat)], B) := hC.f96 _ _ _ (run96 hC l w m hl B)

end Go.Proofs.YtnhelkclkdfndaaDoor.V
