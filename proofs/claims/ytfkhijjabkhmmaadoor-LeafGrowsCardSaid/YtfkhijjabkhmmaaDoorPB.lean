/-
Layer 6, for other layers: a reader's numbers.
-/
import Derived.Test.YtfkhijjabkhmmaaDoorPA
namespace Go.Proofs.YtfkhijjabkhmmaaDoor.V
open Go Go.RowKit
set_option linter.unusedSimpArgs false
set_option linter.unusedVariables false

/-! warren/pack.New -/
def an42 : An := ⟨fun _ => .none, fun | 6 => 2 | _ => 0, fun _ => false, fun _ => .none⟩
noncomputable def fi42 : FI := ⟨1, 7, Tryd.f42.body.getD .skip, Tryd.f42.results.toList, an42, false, false, false⟩
theorem ok42 : FnOk Tryd.prog 42 fi42 := ⟨⟨Tryd.f42, Tryd.func42, by kernel_rfl, rfl, rfl, rfl⟩, by decide, by kernel_rfl, fun h => by cases h⟩
/-! (*warren/pack.Reader).fail -/
def an70 : An := ⟨fun _ => .none, fun _ => 0, fun _ => false, fun _ => .none⟩
noncomputable def fi70 : FI := ⟨1, 8, Tryd.f70.body.getD .skip, Tryd.f70.results.toList, an70, false, false, false⟩
theorem ok70 : FnOk Tryd.prog 70 fi70 := ⟨⟨Tryd.f70, Tryd.func70, by kernel_rfl, rfl, rfl, rfl⟩, by decide, by kernel_rfl, fun h => by cases h⟩
/-! (*warren/pack.Reader).Num -/
def an43 : An := ⟨fun _ => .none, fun _ => 0, fun _ => false, fun _ => .none⟩
noncomputable def fi43 : FI := ⟨2, 38, Tryd.f43.body.getD .skip, Tryd.f43.results.toList, an43, false, false, false⟩
theorem ok43 : FnOk Tryd.prog 43 fi43 := ⟨⟨Tryd.f43, Tryd.func43, by kernel_rfl, rfl, rfl, rfl⟩, by decide, by kernel_rfl, fun h => by cases h⟩
/-! (*warren/pack.Reader).Done -/
def an45 : An := ⟨fun _ => .none, fun _ => 0, fun _ => false, fun _ => .none⟩
noncomputable def fi45 : FI := ⟨1, 20, Tryd.f45.body.getD .skip, Tryd.f45.results.toList, an45, false, false, false⟩
theorem ok45 : FnOk Tryd.prog 45 fi45 := ⟨⟨Tryd.f45, Tryd.func45, by kernel_rfl, rfl, rfl, rfl⟩, by decide, by kernel_rfl, fun h => by cases h⟩
/-! warren/pack.Num -/
def an38 : An := ⟨fun _ => .none, fun _ => 0, fun _ => false, fun _ => .none⟩
noncomputable def fi38 : FI := ⟨2, 8, Tryd.f38.body.getD .skip, Tryd.f38.results.toList, an38, false, false, false⟩
theorem ok38 : FnOk Tryd.prog 38 fi38 := ⟨⟨Tryd.f38, Tryd.func38, by kernel_rfl, rfl, rfl, rfl⟩, by decide, by kernel_rfl, fun h => by cases h⟩
/-! warren/warrenref06.Num -/
def an46 : An := ⟨fun _ => .none, fun _ => 0, fun _ => false, fun _ => .none⟩
noncomputable def fi46 : FI := ⟨2, 30, Tryd.f46.body.getD .skip, Tryd.f46.results.toList, an46, false, false, false⟩
theorem ok46 : FnOk Tryd.prog 46 fi46 := ⟨⟨Tryd.f46, Tryd.func46, by kernel_rfl, rfl, rfl, rfl⟩, by decide, by kernel_rfl, fun h => by cases h⟩
structure LibPack (C : Callees) : Prop extends LibVar C where
  f42 : Has T C 42 fi42
  f70 : Has T C 70 fi70
  f43 : Has T C 43 fi43
  f45 : Has T C 45 fi45
  f38 : Has T C 38 fi38
  f46 : Has T C 46 fi46

variable {C : Callees}

theorem pz0 : ((0 : Nat) : Int) = 0 := rfl
theorem pnat (a : Nat) : (0 : Int) ≤ (a : Int) := Int.natCast_nonneg a

set_option maxRecDepth 10000 in
theorem run42 (hC : LibPack C) (l : List UInt8) (hl : l.length ≤ 1000000) : runV T C fi42 [bvV l .none] [] = some (.bptr 0 0, [rdD (some l)]) := by
  rw [e_run _ _ _ rfl]
  have c1 := hC.vclone l
  simp only [fi42, Tryd.f42, an42, c1 _ hl, rdD, T4, T5, T23, T127, EL, e_finWf, e_finWt, e_finMN, e_finMX, retM, meltV, tupV, D.asBox, D.row1, D.freeR, D.freeO, List.replicate_succ, stepD, accs, accP, accW, simpleOp, isAl, isExt, flipD, D.fresh1, D.row, D.plain, D.plain.plainL, St.close, St.close1, St.borrow, retV, resV, resL, outCL, outC, outL, outD, wantedV, opV, An.mid, thawV, St.settle, D.plainU, prune, envOf, get, put, eval, evalT, nz, argsV, capsV, ofV, binV, binV.aggV, unV, intV, eqOp, isConst, natV, optV, loadV, loadC, storeV, setC, St.at_, partV, partTy, indexAddrV, fieldAddrV, sliceV, sliceV.rowSl, sliceV.strSl, bounds, cutP, builtinV, lenV, maxL, maxV, appendV, St.elems, roomy, rowOf, rowS, isStr, esz, tdOf, convV, buildV, fillV, partsV, okParts, fillL, D.whole, D.demoteC, D.demote, demoteL, D.global, D.flat, D.leaf, D.cells, TI.agg, TD.rowish, callOpV, moveL, CC, keepB, St.borrowL, St.borrow, D.isLsl, adoptR, adoptC, adoptCL, adoptL, adopt, List.toArray, Array.toList, Nat.reduceEqDiff, Nat.reduceAdd, Nat.reduceSub, Nat.reduceMul, Nat.reduceLeDiff, Nat.reduceLT, reduceIte, reduceCtorEq, forall_const, imp_self, Int.reduceNeg, Int.reduceLT, Int.reduceLE, Int.reduceGT, Int.reduceGE, Int.reduceAdd, Int.reduceSub, Int.reduceMul, Int.reduceToNat, Int.reduceEq, ne_eq, eq_self]
theorem c42 (hC : LibPack C) (l : List UInt8) (hl : l.length ≤ 1000000) : C 42 [.vec 1 (l.map byteD) .none] [] = some (.bptr 0 0, [rdD (some l)]) := hC.f42 _ _ _ (run42 hC l hl)

set_option maxRecDepth 10000 in
theorem run70 (C : Callees) (s : RS) : runV T C fi70 [.bptr 0 0] [rdD s] = some (.tuple [], [rdD .none]) := by
  rw [e_run _ _ _ rfl]
  cases s <;>
  simp only [fi70, Tryd.f70, an70, rdD, T4, T5, T23, T127, EL, e_finWf, e_finWt, e_finMN, e_finMX, retM, meltV, tupV, D.asBox, D.row1, D.freeR, D.freeO, List.replicate_succ, stepD, accs, accP, accW, simpleOp, isAl, isExt, flipD, D.fresh1, D.row, D.plain, D.plain.plainL, St.close, St.close1, St.borrow, retV, resV, resL, outCL, outC, outL, outD, wantedV, opV, An.mid, thawV, St.settle, D.plainU, prune, envOf, get, put, eval, evalT, nz, argsV, capsV, ofV, binV, binV.aggV, unV, intV, eqOp, isConst, natV, optV, loadV, loadC, storeV, setC, St.at_, partV, partTy, indexAddrV, fieldAddrV, sliceV, sliceV.rowSl, sliceV.strSl, bounds, cutP, builtinV, lenV, maxL, maxV, appendV, St.elems, roomy, rowOf, rowS, isStr, esz, tdOf, convV, buildV, fillV, partsV, okParts, fillL, D.whole, D.demoteC, D.demote, demoteL, D.global, D.flat, D.leaf, D.cells, TI.agg, TD.rowish, callOpV, moveL, CC, keepB, St.borrowL, St.borrow, D.isLsl, adoptR, adoptC, adoptCL, adoptL, adopt, List.toArray, Array.toList, Nat.reduceEqDiff, Nat.reduceAdd, Nat.reduceSub, Nat.reduceMul, Nat.reduceLeDiff, Nat.reduceLT, reduceIte, reduceCtorEq, forall_const, imp_self, Int.reduceNeg, Int.reduceLT, Int.reduceLE, Int.reduceGT, Int.reduceGE, Int.reduceAdd, Int.reduceSub, Int.reduceMul, Int.reduceToNat, Int.reduceEq, ne_eq, eq_self]
theorem c70 (hC : LibPack C) (s : RS) : C 70 [.bptr 0 0] [rdD s] = some (.tuple [], [rdD .none]) := hC.f70 _ _ _ (run70 C s)

set_option maxRecDepth 10000 in
theorem run43 (hC : LibPack C) (s : RS) (m : Nat) (hs : ∀ l, s = some l → l.length ≤ 1000000) : runV T C fi43 [.bptr 0 0, .int .u64 (m : Nat)] [rdD s] = some (.int .u64 ((numP s m).2 : Nat), [rdD (numP s m).1]) := by
  rw [e_run _ _ _ rfl]
  cases s with
  | none =>
    have c0 := c70 hC .none
    have c1 : ∀ B, C 69 [.vec 1 [] .none] B = some (.tuple [.int .u64 0, .int .i64 0, .iface 85 (.int .i64 6)], B) := fun B => c69 hC.toLibVar [] B
    unfold rdD at c0 ⊢
    simp only [fi43, Tryd.f43, an43, c0, c1, numP, pz0, T4, T5, T23, T28, T84, T88, T127, EL, e_finWf, e_finWt, e_finMN, e_finMX, retM, meltV, tupV, D.asBox, D.row1, D.freeR, D.freeO, List.replicate_succ, stepD, accs, accP, accW, simpleOp, isAl, isExt, flipD, D.fresh1, D.row, D.plain, D.plain.plainL, St.close, St.close1, St.borrow, retV, resV, resL, outCL, outC, outL, outD, wantedV, opV, An.mid, thawV, St.settle, D.plainU, prune, envOf, get, put, eval, evalT, nz, argsV, capsV, ofV, binV, binV.aggV, unV, intV, eqOp, isConst, natV, optV, loadV, loadC, storeV, setC, St.at_, partV, partTy, indexAddrV, fieldAddrV, sliceV, sliceV.rowSl, sliceV.strSl, bounds, cutP, builtinV, lenV, maxL, maxV, appendV, St.elems, roomy, rowOf, rowS, isStr, esz, tdOf, convV, buildV, fillV, partsV, okParts, fillL, D.whole, D.demoteC, D.demote, demoteL, D.global, D.flat, D.leaf, D.cells, TI.agg, TD.rowish, callOpV, moveL, CC, keepB, St.borrowL, St.borrow, D.isLsl, adoptR, adoptC, adoptCL, adoptL, adopt, List.toArray, Array.toList, Nat.reduceEqDiff, Nat.reduceAdd, Nat.reduceSub, Nat.reduceMul, Nat.reduceLeDiff, Nat.reduceLT, reduceIte, reduceCtorEq, forall_const, imp_self, Int.reduceNeg, Int.reduceLT, Int.reduceLE, Int.reduceGT, Int.reduceGE, Int.reduceAdd, Int.reduceSub, Int.reduceMul, Int.reduceToNat, Int.reduceEq, ne_eq, eq_self]
  | some l =>
    have hl := hs l rfl
    have c0 := c70 hC (some l)
    have c1 := c69 hC.toLibVar l
    have hb := vget_bnd l 0 0 (by omega) (by omega)
    unfold getD3 at c1
    simp only [numP]
    unfold numS
    unfold rdD at c0 ⊢
    simp only at c0 ⊢
    obtain ⟨b1, b2, b3, b4⟩ := hb
    generalize (vgetS l 0 0).1 = v at c1 b1
    generalize (vgetS l 0 0).2.1 = n at c1 b2 b3 b4
    generalize (vgetS l 0 0).2.2 = e at c1 b4
    by_cases h0 : e = 0
    · subst h0
      simp only [errD_zero] at c1
      by_cases h1 : v ≤ m
      · have g1 : ¬ (v : Int) > m := by omega
        have g2 := pnat n
        have g3 : n ≤ l.length := by omega
        rw [if_pos ⟨rfl, h1⟩]
        simp only [fi43, Tryd.f43, an43, c1, g1, g2, g3, Int.toNat_natCast, List.take_length, T4, T5, T23, T28, T84, T88, T127, EL, e_finWf, e_finWt, e_finMN, e_finMX, retM, meltV, tupV, D.asBox, D.row1, D.freeR, D.freeO, List.replicate_succ, stepD, accs, accP, accW, simpleOp, isAl, isExt, flipD, D.fresh1, D.row, D.plain, D.plain.plainL, St.close, St.close1, St.borrow, retV, resV, resL, outCL, outC, outL, outD, wantedV, opV, An.mid, thawV, St.settle, D.plainU, prune, envOf, get, put, eval, evalT, nz, argsV, capsV, ofV, binV, binV.aggV, unV, intV, eqOp, isConst, natV, optV, loadV, loadC, storeV, setC, St.at_, partV, partTy, indexAddrV, fieldAddrV, sliceV, sliceV.rowSl, sliceV.strSl, bounds, cutP, builtinV, lenV, maxL, maxV, appendV, St.elems, roomy, rowOf, rowS, isStr, esz, tdOf, convV, buildV, fillV, partsV, okParts, fillL, D.whole, D.demoteC, D.demote, demoteL, D.global, D.flat, D.leaf, D.cells, TI.agg, TD.rowish, callOpV, moveL, CC, keepB, St.borrowL, St.borrow, D.isLsl, adoptR, adoptC, adoptCL, adoptL, adopt, List.toArray, Array.toList, Nat.reduceEqDiff, Nat.reduceAdd, Nat.reduceSub, Nat.reduceMul, Nat.reduceLeDiff, Nat.reduceLT, reduceIte, reduceCtorEq, forall_const, imp_self, Int.reduceNeg, Int.reduceLT, Int.reduceLE, Int.reduceGT, Int.reduceGE, Int.reduceAdd, Int.reduceSub, Int.reduceMul, Int.reduceToNat, Int.reduceEq, ne_eq, eq_self]
      · have g1 : (v : Int) > m := by omega
        rw [if_neg (fun h => h1 h.2)]
        simp only [fi43, Tryd.f43, an43, c0, c1, g1, T4, T5, T23, T28, T84, T88, T127, EL, e_finWf, e_finWt, e_finMN, e_finMX, retM, meltV, tupV, D.asBox, D.row1, D.freeR, D.freeO, List.replicate_succ, stepD, accs, accP, accW, simpleOp, isAl, isExt, flipD, D.fresh1, D.row, D.plain, D.plain.plainL, St.close, St.close1, St.borrow, retV, resV, resL, outCL, outC, outL, outD, wantedV, opV, An.mid, thawV, St.settle, D.plainU, prune, envOf, get, put, eval, evalT, nz, argsV, capsV, ofV, binV, binV.aggV, unV, intV, eqOp, isConst, natV, optV, loadV, loadC, storeV, setC, St.at_, partV, partTy, indexAddrV, fieldAddrV, sliceV, sliceV.rowSl, sliceV.strSl, bounds, cutP, builtinV, lenV, maxL, maxV, appendV, St.elems, roomy, rowOf, rowS, isStr, esz, tdOf, convV, buildV, fillV, partsV, okParts, fillL, D.whole, D.demoteC, D.demote, demoteL, D.global, D.flat, D.leaf, D.cells, TI.agg, TD.rowish, callOpV, moveL, CC, keepB, St.borrowL, St.borrow, D.isLsl, adoptR, adoptC, adoptCL, adoptL, adopt, List.toArray, Array.toList, Nat.reduceEqDiff, Nat.reduceAdd, Nat.reduceSub, Nat.reduceMul, Nat.reduceLeDiff, Nat.reduceLT, reduceIte, reduceCtorEq, forall_const, imp_self, Int.reduceNeg, Int.reduceLT, Int.reduceLE, Int.reduceGT, Int.reduceGE, Int.reduceAdd, Int.reduceSub, Int.reduceMul, Int.reduceToNat, Int.reduceEq, ne_eq, eq_self]
        rfl
    · rw [errD_pos h0] at c1
      rw [if_neg (fun h => h0 h.1)]
      simp only [fi43, Tryd.f43, an43, c0, c1, T4, T5, T23, T28, T84, T88, T127, EL, e_finWf, e_finWt, e_finMN, e_finMX, retM, meltV, tupV, D.asBox, D.row1, D.freeR, D.freeO, List.replicate_succ, stepD, accs, accP, accW, simpleOp, isAl, isExt, flipD, D.fresh1, D.row, D.plain, D.plain.plainL, St.close, St.close1, St.borrow, retV, resV, resL, outCL, outC, outL, outD, wantedV, opV, An.mid, thawV, St.settle, D.plainU, prune, envOf, get, put, eval, evalT, nz, argsV, capsV, ofV, binV, binV.aggV, unV, intV, eqOp, isConst, natV, optV, loadV, loadC, storeV, setC, St.at_, partV, partTy, indexAddrV, fieldAddrV, sliceV, sliceV.rowSl, sliceV.strSl, bounds, cutP, builtinV, lenV, maxL, maxV, appendV, St.elems, roomy, rowOf, rowS, isStr, esz, tdOf, convV, buildV, fillV, partsV, okParts, fillL, D.whole, D.demoteC, D.demote, demoteL, D.global, D.flat, D.leaf, D.cells, TI.agg, TD.rowish, callOpV, moveL, CC, keepB, St.borrowL, St.borrow, D.isLsl, adoptR, adoptC, adoptCL, adoptL, adopt, List.toArray, Array.toList, Nat.reduceEqDiff, Nat.reduceAdd, Nat.reduceSub, Nat.reduceMul, Nat.reduceLeDiff, Nat.reduceLT, reduceIte, reduceCtorEq, forall_const, imp_self, Int.reduceNeg, Int.reduceLT, Int.reduceLE, Int.reduceGT, Int.reduceGE, Int.reduceAdd, Int.reduceSub, Int.reduceMul, Int.reduceToNat, Int.reduceEq, ne_eq, eq_self]
      rfl
theorem c43 (hC : LibPack C) (s : RS) (m : Nat) (hs : ∀ l, s = some l → l.length ≤ 1000000) : C 43 [.bptr 0 0, .int .u64 (m : Nat)] [rdD s] = some (.int .u64 ((numP s m).2 : Nat), [rdD (numP s m).1]) := hC.f43 _ _ _ (run43 hC s m hs)

def doneE : RS → Nat
  | some [] => 0
  | _ => 3
set_option maxRecDepth 10000 in
theorem run45 (C : Callees) (s : RS) : runV T C fi45 [.bptr 0 0] [rdD s] = some (errD (doneE s), [rdD s]) := by
  rw [e_run _ _ _ rfl]
  rcases s with _ | _ | ⟨c, l⟩
  · unfold rdD
    simp only [fi45, Tryd.f45, an45, pz0, T3, T4, T5, T23, T85, T88, T127, EL, e_finWf, e_finWt, e_finMN, e_finMX, retM, meltV, tupV, D.asBox, D.row1, D.freeR, D.freeO, List.replicate_succ, stepD, accs, accP, accW, simpleOp, isAl, isExt, flipD, D.fresh1, D.row, D.plain, D.plain.plainL, St.close, St.close1, St.borrow, retV, resV, resL, outCL, outC, outL, outD, wantedV, opV, An.mid, thawV, St.settle, D.plainU, prune, envOf, get, put, eval, evalT, nz, argsV, capsV, ofV, binV, binV.aggV, unV, intV, eqOp, isConst, natV, optV, loadV, loadC, storeV, setC, St.at_, partV, partTy, indexAddrV, fieldAddrV, sliceV, sliceV.rowSl, sliceV.strSl, bounds, cutP, builtinV, lenV, maxL, maxV, appendV, St.elems, roomy, rowOf, rowS, isStr, esz, tdOf, convV, buildV, fillV, partsV, okParts, fillL, D.whole, D.demoteC, D.demote, demoteL, D.global, D.flat, D.leaf, D.cells, TI.agg, TD.rowish, callOpV, moveL, CC, keepB, St.borrowL, St.borrow, D.isLsl, adoptR, adoptC, adoptCL, adoptL, adopt, List.toArray, Array.toList, Nat.reduceEqDiff, Nat.reduceAdd, Nat.reduceSub, Nat.reduceMul, Nat.reduceLeDiff, Nat.reduceLT, reduceIte, reduceCtorEq, forall_const, imp_self, Int.reduceNeg, Int.reduceLT, Int.reduceLE, Int.reduceGT, Int.reduceGE, Int.reduceAdd, Int.reduceSub, Int.reduceMul, Int.reduceToNat, Int.reduceEq, ne_eq, eq_self]
    rfl
  · unfold rdD
    have h0 : ¬ (0 : Int) > 0 := by decide
    simp only [fi45, Tryd.f45, an45, pz0, h0, T3, T4, T5, T23, T85, T88, T127, EL, e_finWf, e_finWt, e_finMN, e_finMX, retM, meltV, tupV, D.asBox, D.row1, D.freeR, D.freeO, List.replicate_succ, stepD, accs, accP, accW, simpleOp, isAl, isExt, flipD, D.fresh1, D.row, D.plain, D.plain.plainL, St.close, St.close1, St.borrow, retV, resV, resL, outCL, outC, outL, outD, wantedV, opV, An.mid, thawV, St.settle, D.plainU, prune, envOf, get, put, eval, evalT, nz, argsV, capsV, ofV, binV, binV.aggV, unV, intV, eqOp, isConst, natV, optV, loadV, loadC, storeV, setC, St.at_, partV, partTy, indexAddrV, fieldAddrV, sliceV, sliceV.rowSl, sliceV.strSl, bounds, cutP, builtinV, lenV, maxL, maxV, appendV, St.elems, roomy, rowOf, rowS, isStr, esz, tdOf, convV, buildV, fillV, partsV, okParts, fillL, D.whole, D.demoteC, D.demote, demoteL, D.global, D.flat, D.leaf, D.cells, TI.agg, TD.rowish, callOpV, moveL, CC, keepB, St.borrowL, St.borrow, D.isLsl, adoptR, adoptC, adoptCL, adoptL, adopt, List.toArray, Array.toList, Nat.reduceEqDiff, Nat.reduceAdd, Nat.reduceSub, Nat.reduceMul, Nat.reduceLeDiff, Nat.reduceLT, reduceIte, reduceCtorEq, forall_const, imp_self, Int.reduceNeg, Int.reduceLT, Int.reduceLE, Int.reduceGT, Int.reduceGE, Int.reduceAdd, Int.reduceSub, Int.reduceMul, Int.reduceToNat, Int.reduceEq, ne_eq, eq_self]
    rfl
  · unfold rdD
    have h0 : ((l.length + 1 : Nat) : Int) > 0 := by omega
    simp only [fi45, Tryd.f45, an45, pz0, h0, T3, T4, T5, T23, T85, T88, T127, EL, e_finWf, e_finWt, e_finMN, e_finMX, retM, meltV, tupV, D.asBox, D.row1, D.freeR, D.freeO, List.replicate_succ, stepD, accs, accP, accW, simpleOp, isAl, isExt, flipD, D.fresh1, D.row, D.plain, D.plain.plainL, St.close, St.close1, St.borrow, retV, resV, resL, outCL, outC, outL, outD, wantedV, opV, An.mid, thawV, St.settle, D.plainU, prune, envOf, get, put, eval, evalT, nz, argsV, capsV, ofV, binV, binV.aggV, unV, intV, eqOp, isConst, natV, optV, loadV, loadC, storeV, setC, St.at_, partV, partTy, indexAddrV, fieldAddrV, sliceV, sliceV.rowSl, sliceV.strSl, bounds, cutP, builtinV, lenV, maxL, maxV, appendV, St.elems, roomy, rowOf, rowS, isStr, esz, tdOf, convV, buildV, fillV, partsV, okParts, fillL, D.whole, D.demoteC, D.demote, demoteL, D.global, D.flat, D.leaf, D.cells, TI.agg, TD.rowish, callOpV, moveL, CC, keepB, St.borrowL, St.borrow, D.isLsl, adoptR, adoptC, adoptCL, adoptL, adopt, List.toArray, Array.toList, Nat.reduceEqDiff, Nat.reduceAdd, Nat.reduceSub, Nat.reduceMul, Nat.reduceLeDiff, Nat.reduceLT, reduceIte, reduceCtorEq, forall_const, imp_self, Int.reduceNeg, Int.reduceLT, Int.reduceLE, Int.reduceGT, Int.reduceGE, Int.reduceAdd, Int.reduceSub, Int.reduceMul, Int.reduceToNat, Int.reduceEq, ne_eq, eq_self]
    rfl
theorem c45 (hC : LibPack C) (s : RS) : C 45 [.bptr 0 0] [rdD s] = some (errD (doneE s), [rdD s]) := hC.f45 _ _ _ (run45 C s)

set_option maxRecDepth 10000 in
theorem run38 (hC : LibPack C) (l : List UInt8) (v : Nat) (hv : v < 18446744073709551616) (hl : l.length ≤ 900000) (B : Hp) : runV T C fi38 [bvV l .none, .int .u64 v] B = some (.vec 1 ((l ++ vputS v).map byteD) .fresh, B) := by
  rw [e_run _ _ _ rfl]
  have c1 := c65 hC.toLibVar l v hv hl
  simp only [fi38, Tryd.f38, an38, c1, T5, T23, EL, e_finWf, e_finWt, e_finMN, e_finMX, retM, meltV, tupV, D.asBox, D.row1, D.freeR, D.freeO, List.replicate_succ, stepD, accs, accP, accW, simpleOp, isAl, isExt, flipD, D.fresh1, D.row, D.plain, D.plain.plainL, St.close, St.close1, St.borrow, retV, resV, resL, outCL, outC, outL, outD, wantedV, opV, An.mid, thawV, St.settle, D.plainU, prune, envOf, get, put, eval, evalT, nz, argsV, capsV, ofV, binV, binV.aggV, unV, intV, eqOp, isConst, natV, optV, loadV, loadC, storeV, setC, St.at_, partV, partTy, indexAddrV, fieldAddrV, sliceV, sliceV.rowSl, sliceV.strSl, bounds, cutP, builtinV, lenV, maxL, maxV, appendV, St.elems, roomy, rowOf, rowS, isStr, esz, tdOf, convV, buildV, fillV, partsV, okParts, fillL, D.whole, D.demoteC, D.demote, demoteL, D.global, D.flat, D.leaf, D.cells, TI.agg, TD.rowish, callOpV, moveL, CC, keepB, St.borrowL, St.borrow, D.isLsl, adoptR, adoptC, adoptCL, adoptL, adopt, List.toArray, Array.toList, Nat.reduceEqDiff, Nat.reduceAdd, Nat.reduceSub, Nat.reduceMul, Nat.reduceLeDiff, Nat.reduceLT, reduceIte, reduceCtorEq, forall_const, imp_self, Int.reduceNeg, Int.reduceLT, Int.reduceLE, Int.reduceGT, Int.reduceGE, Int.reduceAdd, Int.reduceSub, Int.reduceMul, Int.reduceToNat, Int.reduceEq, ne_eq, eq_self]
theorem c38 (hC : LibPack C) (l : List UInt8) (v : Nat) (hv : v < 18446744073709551616) (hl : l.length ≤ 900000) (B : Hp) : C 38 [.vec 1 (l.map byteD) .none, .int .u64 v] B = some (.vec 1 ((l ++ vputS v).map byteD) .fresh, B) := hC.f38 _ _ _ (run38 hC l v hv hl B)

/-! ### The document's reader -/
def rfD : RS → D
  | some l => .agg [.vec 1 (l.map byteD) .none, .bool false]
  | .none => .agg [.vec 1 [] .fresh, .bool true]

set_option maxRecDepth 10000 in
theorem run46 (hC : LibPack C) (l : List UInt8) (w : Bool) (m : Nat) (hl : l.length ≤ 1000000) (B : Hp) : runV T C fi46 [.agg [.vec 1 (l.map byteD) .none, .bool w], .int .u64 (m : Nat)] B = some (.tuple [rfD (numS l m).1, .int .u64 ((numS l m).2 : Nat)], B) := by
  rw [e_run _ _ _ rfl]
  have c1 : ∀ B, C 73 [.vec 1 (l.map byteD) .none] B = some (.tuple [.int .u64 (vgetS l 0 0).1, .int .i64 (vgetS l 0 0).2.1, .int .i64 (vgetS l 0 0).2.2], B) := fun B => by
    have := c73 hC.toLibVar l B hl
    rw [this, refD, vgetS_ref]
  obtain ⟨b1, b2, b3, b4⟩ := vget_bnd l 0 0 (by omega) (by omega)
  unfold numS
  generalize (vgetS l 0 0).1 = v at c1 b1
  generalize (vgetS l 0 0).2.1 = n at c1 b2 b3 b4
  generalize (vgetS l 0 0).2.2 = e at c1 b4
  by_cases h0 : e = 0
  · subst h0
    by_cases h1 : v ≤ m
    · have g1 : ¬ (v : Int) > m := by omega
      have g2 := pnat n
      have g3 : n ≤ l.length := by omega
      rw [if_pos ⟨rfl, h1⟩]
      simp only [fi46, Tryd.f46, an46, c1, g1, g2, g3, pz0, rfD, Int.toNat_natCast, List.take_length, T3, T4, T5, T23, T84, T94, EL, e_finWf, e_finWt, e_finMN, e_finMX, retM, meltV, tupV, D.asBox, D.row1, D.freeR, D.freeO, List.replicate_succ, stepD, accs, accP, accW, simpleOp, isAl, isExt, flipD, D.fresh1, D.row, D.plain, D.plain.plainL, St.close, St.close1, St.borrow, retV, resV, resL, outCL, outC, outL, outD, wantedV, opV, An.mid, thawV, St.settle, D.plainU, prune, envOf, get, put, eval, evalT, nz, argsV, capsV, ofV, binV, binV.aggV, unV, intV, eqOp, isConst, natV, optV, loadV, loadC, storeV, setC, St.at_, partV, partTy, indexAddrV, fieldAddrV, sliceV, sliceV.rowSl, sliceV.strSl, bounds, cutP, builtinV, lenV, maxL, maxV, appendV, St.elems, roomy, rowOf, rowS, isStr, esz, tdOf, convV, buildV, fillV, partsV, okParts, fillL, D.whole, D.demoteC, D.demote, demoteL, D.global, D.flat, D.leaf, D.cells, TI.agg, TD.rowish, callOpV, moveL, CC, keepB, St.borrowL, St.borrow, D.isLsl, adoptR, adoptC, adoptCL, adoptL, adopt, List.toArray, Array.toList, Nat.reduceEqDiff, Nat.reduceAdd, Nat.reduceSub, Nat.reduceMul, Nat.reduceLeDiff, Nat.reduceLT, reduceIte, reduceCtorEq, forall_const, imp_self, Int.reduceNeg, Int.reduceLT, Int.reduceLE, Int.reduceGT, Int.reduceGE, Int.reduceAdd, Int.reduceSub, Int.reduceMul, Int.reduceToNat, Int.reduceEq, ne_eq, eq_self]
    · have g1 : (v : Int) > m := by omega
      rw [if_neg (fun h => h1 h.2)]
      simp only [fi46, Tryd.f46, an46, c1, g1, pz0, rfD, T3, T4, T5, T23, T84, T94, EL, e_finWf, e_finWt, e_finMN, e_finMX, retM, meltV, tupV, D.asBox, D.row1, D.freeR, D.freeO, List.replicate_succ, stepD, accs, accP, accW, simpleOp, isAl, isExt, flipD, D.fresh1, D.row, D.plain, D.plain.plainL, St.close, St.close1, St.borrow, retV, resV, resL, outCL, outC, outL, outD, wantedV, opV, An.mid, thawV, St.settle, D.plainU, prune, envOf, get, put, eval, evalT, nz, argsV, capsV, ofV, binV, binV.aggV, unV, intV, eqOp, isConst, natV, optV, loadV, loadC, storeV, setC, St.at_, partV, partTy, indexAddrV, fieldAddrV, sliceV, sliceV.rowSl, sliceV.strSl, bounds, cutP, builtinV, lenV, maxL, maxV, appendV, St.elems, roomy, rowOf, rowS, isStr, esz, tdOf, convV, buildV, fillV, partsV, okParts, fillL, D.whole, D.demoteC, D.demote, demoteL, D.global, D.flat, D.leaf, D.cells, TI.agg, TD.rowish, callOpV, moveL, CC, keepB, St.borrowL, St.borrow, D.isLsl, adoptR, adoptC, adoptCL, adoptL, adopt, List.toArray, Array.toList, Nat.reduceEqDiff, Nat.reduceAdd, Nat.reduceSub, Nat.reduceMul, Nat.reduceLeDiff, Nat.reduceLT, reduceIte, reduceCtorEq, forall_const, imp_self, Int.reduceNeg, Int.reduceLT, Int.reduceLE, Int.reduceGT, Int.reduceGE, Int.reduceAdd, Int.reduceSub, Int.reduceMul, Int.reduceToNat, Int.reduceEq, ne_eq, eq_self]
  · have g0 : ¬ (e : Int) = 0 := by omega
    rw [if_neg (fun h => h0 h.1)]
    simp only [fi46, Tryd.f46, an46, c1, g0, pz0, rfD, T3, T4, T5, T23, T84, T94, EL, e_finWf, e_finWt, e_finMN, e_finMX, retM, meltV, tupV, D.asBox, D.row1, D.freeR, D.freeO, List.replicate_succ, stepD, accs, accP, accW, simpleOp, isAl, isExt, flipD, D.fresh1, D.row, D.plain, D.plain.plainL, St.close, St.close1, St.borrow, retV, resV, resL, outCL, outC, outL, outD, wantedV, opV, An.mid, thawV, St.settle, D.plainU, prune, envOf, get, put, eval, evalT, nz, argsV, capsV, ofV, binV, binV.aggV, unV, intV, eqOp, isConst, natV, optV, loadV, loadC, storeV, setC, St.at_, partV, partTy, indexAddrV, fieldAddrV, sliceV, sliceV.rowSl, sliceV.strSl, bounds, cutP, builtinV, lenV, maxL, maxV, appendV, St.elems, roomy, rowOf, rowS, isStr, esz, tdOf, convV, buildV, fillV, partsV, okParts, fillL, D.whole, D.demoteC, D.demote, demoteL, D.global, D.flat, D.leaf, D.cells, TI.agg, TD.rowish, callOpV, moveL, CC, keepB, St.borrowL, St.borrow, D.isLsl, adoptR, adoptC, adoptCL, adoptL, adopt, List.toArray, Array.toList, Nat.reduceEqDiff, Nat.reduceAdd, Nat.reduceSub, Nat.reduceMul, Nat.reduceLeDiff, Nat.reduceLT, reduceIte, reduceCtorEq, forall_const, imp_self, Int.reduceNeg, Int.reduceLT, Int.reduceLE, Int.reduceGT, Int.reduceGE, Int.reduceAdd, Int.reduceSub, Int.reduceMul, Int.reduceToNat, Int.reduceEq, ne_eq, eq_self]
theorem c46 (hC : LibPack C) (l : List UInt8) (w : Bool) (m : Nat) (hl : l.length ≤ 1000000) (B : Hp) : C 46 [.agg [.vec 1 (l.map byteD) .none, .bool w], .int .u64 (m : Nat)] B = some (.tuple [rfD (numS l m).1, .int .u64 ((numS l m).2 : Nat)], B) := hC.f46 _ _ _ (run46 hC l w m hl B)

end Go.Proofs.YtfkhijjabkhmmaaDoor.V
