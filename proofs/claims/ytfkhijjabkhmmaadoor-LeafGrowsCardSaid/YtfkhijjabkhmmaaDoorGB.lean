/-
Layer 8: cells: what may be, how many bytes, and they.
-/
import Derived.Test.YtfkhijjabkhmmaaDoorGA
import Derived.Test.YtfkhijjabkhmmaaDoorQC
import Derived.Test.YtfkhijjabkhmmaaDoorIA
namespace Go.Proofs.YtfkhijjabkhmmaaDoor.V
open Go Go.RowKit
set_option linter.unusedSimpArgs false
set_option linter.unusedVariables false

/-! warren/leaf.far -/
def an51 : An := ⟨fun _ => .none, fun _ => 0, fun _ => false, fun _ => .none⟩
noncomputable def fi51 : FI := ⟨1, 5, Tryd.f51.body.getD .skip, Tryd.f51.results.toList, an51, false, false, false⟩
theorem ok51 : FnOk Tryd.prog 51 fi51 := ⟨⟨Tryd.f51, Tryd.func51, by kernel_rfl, rfl, rfl, rfl⟩, by decide, by kernel_rfl, fun h => by cases h⟩
/-! warren/leaf.Check -/
def an21 : An := ⟨fun _ => .none, fun _ => 0, fun _ => false, fun _ => .none⟩
noncomputable def fi21 : FI := ⟨1, 49, Tryd.f21.body.getD .skip, Tryd.f21.results.toList, an21, false, false, false⟩
theorem ok21 : FnOk Tryd.prog 21 fi21 := ⟨⟨Tryd.f21, Tryd.func21, by kernel_rfl, rfl, rfl, rfl⟩, by decide, by kernel_rfl, fun h => by cases h⟩
/-! warren/leaf.Size -/
def an18 : An := ⟨fun _ => .none, fun _ => 0, fun _ => false, fun _ => .none⟩
noncomputable def fi18 : FI := ⟨2, 26, Tryd.f18.body.getD .skip, Tryd.f18.results.toList, an18, false, false, false⟩
theorem ok18 : FnOk Tryd.prog 18 fi18 := ⟨⟨Tryd.f18, Tryd.func18, by kernel_rfl, rfl, rfl, rfl⟩, by decide, by kernel_rfl, fun h => by cases h⟩
/-! warren/leaf.put -/
def an39 : An := ⟨fun _ => .none, fun _ => 0, fun _ => false, fun _ => .none⟩
noncomputable def fi39 : FI := ⟨2, 26, Tryd.f39.body.getD .skip, Tryd.f39.results.toList, an39, false, false, false⟩
theorem ok39 : FnOk Tryd.prog 39 fi39 := ⟨⟨Tryd.f39, Tryd.func39, by kernel_rfl, rfl, rfl, rfl⟩, by decide, by kernel_rfl, fun h => by cases h⟩
/-! warren/varint.Size -/
def an50 : An := ⟨fun _ => .none, fun _ => 0, fun _ => false, fun _ => .none⟩
noncomputable def fi50 : FI := ⟨1, 8, Tryd.f50.body.getD .skip, Tryd.f50.results.toList, an50, false, false, false⟩
theorem ok50 : FnOk Tryd.prog 50 fi50 := ⟨⟨Tryd.f50, Tryd.func50, by kernel_rfl, rfl, rfl, rfl⟩, by decide, by kernel_rfl, fun h => by cases h⟩
/-! warren/warrenref08.May -/
def an22 : An := ⟨fun _ => .none, fun _ => 0, fun _ => false, fun _ => .none⟩
noncomputable def fi22 : FI := ⟨1, 50, Tryd.f22.body.getD .skip, Tryd.f22.results.toList, an22, false, false, false⟩
theorem ok22 : FnOk Tryd.prog 22 fi22 := ⟨⟨Tryd.f22, Tryd.func22, by kernel_rfl, rfl, rfl, rfl⟩, by decide, by kernel_rfl, fun h => by cases h⟩
/-! warren/warrenref08.Size -/
def an19 : An := ⟨fun _ => .none, fun _ => 0, fun _ => false, fun _ => .none⟩
noncomputable def fi19 : FI := ⟨2, 22, Tryd.f19.body.getD .skip, Tryd.f19.results.toList, an19, false, false, false⟩
theorem ok19 : FnOk Tryd.prog 19 fi19 := ⟨⟨Tryd.f19, Tryd.func19, by kernel_rfl, rfl, rfl, rfl⟩, by decide, by kernel_rfl, fun h => by cases h⟩
/-! warren/warrenref08.one -/
def an41 : An := ⟨fun _ => .none, fun _ => 0, fun _ => false, fun _ => .none⟩
noncomputable def fi41 : FI := ⟨1, 31, Tryd.f41.body.getD .skip, Tryd.f41.results.toList, an41, false, false, false⟩
theorem ok41 : FnOk Tryd.prog 41 fi41 := ⟨⟨Tryd.f41, Tryd.func41, by kernel_rfl, rfl, rfl, rfl⟩, by decide, by kernel_rfl, fun h => by cases h⟩
/-! warren/warrenlaw08.giveCells -/
def an12 : An := ⟨fun | 3 => some [0, 3, 4] | _ => .none, fun _ => 0, fun _ => false, fun _ => .none⟩
noncomputable def fi12 : FI := ⟨1, 19, Tryd.f12.body.getD .skip, Tryd.f12.results.toList, an12, false, false, false⟩
theorem ok12 : FnOk Tryd.prog 12 fi12 := ⟨⟨Tryd.f12, Tryd.func12, by kernel_rfl, rfl, rfl, rfl⟩, by decide, by kernel_rfl, fun h => by cases h⟩
noncomputable def lp12_0 : Code := subC [1, 1, 0, 1, 0, 0] (Tryd.f12.body.getD .skip)   -- head 3 keep [0, 3, 4]
/-! warren/warrenlaw08.areCells -/
def an17 : An := ⟨fun | 4 => some [0, 1, 5] | _ => .none, fun _ => 0, fun _ => false, fun _ => .none⟩
noncomputable def fi17 : FI := ⟨2, 26, Tryd.f17.body.getD .skip, Tryd.f17.results.toList, an17, false, false, false⟩
theorem ok17 : FnOk Tryd.prog 17 fi17 := ⟨⟨Tryd.f17, Tryd.func17, by kernel_rfl, rfl, rfl, rfl⟩, by decide, by kernel_rfl, fun h => by cases h⟩
noncomputable def lp17_0 : Code := subC [1, 1, 0, 1, 0, 0] (Tryd.f17.body.getD .skip)   -- head 4 keep [0, 1, 5]
structure Lib08A (C : Callees) : Prop extends Lib09A C, LibIntC C, LibInt C where
  f51 : Has T C 51 fi51
  f21 : Has T C 21 fi21
  f18 : Has T C 18 fi18
  f39 : Has T C 39 fi39
  f50 : Has T C 50 fi50
  f22 : Has T C 22 fi22
  f19 : Has T C 19 fi19
  f41 : Has T C 41 fi41
  f12 : Has T C 12 fi12
  f17 : Has T C 17 fi17

variable {C : Callees}

theorem nlit8 (n : Nat) : (Nat.cast (no_index (OfNat.ofNat n)) : Int) = OfNat.ofNat n := rfl
theorem sC_nil (l : List D) : setC l 0 [] = l := by simp [setC]
theorem sC_zero (a : D) (l : List D) (x : D) (xs : List D) : setC (a :: l) 0 (x :: xs) = x :: setC l 0 xs := by simp [setC]
theorem sC_succ (a : D) (l : List D) (n : Nat) (xs : List D) : setC (a :: l) (n + 1) xs = a :: setC l n xs := by simp [setC, Nat.add_right_comm]

set_option maxRecDepth 10000 in
theorem run51 (C : Callees) (n : Int) (B : Hp) : runV T C fi51 [.int .i64 n] B = some (.bool (decide (n > 64)), B) := by
  rw [e_run _ _ _ rfl]
  simp only [fi51, Tryd.f51, an51, T3, EL, e_finWf, e_finWt, e_finMN, e_finMX, retM, meltV, tupV, D.asBox, D.row1, D.freeR, D.freeO, List.replicate_succ, stepD, accs, accP, accW, simpleOp, isAl, isExt, flipD, D.fresh1, D.row, D.plain, D.plain.plainL, St.close, St.close1, St.borrow, retV, resV, resL, outCL, outC, outL, outD, wantedV, opV, An.mid, thawV, St.settle, D.plainU, prune, envOf, get, put, eval, evalT, nz, argsV, capsV, ofV, binV, binV.aggV, unV, intV, eqOp, isConst, natV, optV, loadV, loadC, storeV, setC, St.at_, partV, partTy, indexAddrV, fieldAddrV, sliceV, sliceV.rowSl, sliceV.strSl, bounds, cutP, builtinV, lenV, maxL, maxV, appendV, St.elems, roomy, rowOf, rowS, isStr, esz, tdOf, convV, buildV, fillV, partsV, okParts, fillL, D.whole, D.demoteC, D.demote, demoteL, D.global, D.flat, D.leaf, D.cells, TI.agg, TD.rowish, callOpV, moveL, CC, keepB, St.borrowL, St.borrow, D.isLsl, adoptR, adoptC, adoptCL, adoptL, adopt, List.toArray, Array.toList, Nat.reduceEqDiff, Nat.reduceAdd, Nat.reduceSub, Nat.reduceMul, Nat.reduceLeDiff, Nat.reduceLT, reduceIte, reduceCtorEq, forall_const, imp_self, Int.reduceNeg, Int.reduceLT, Int.reduceLE, Int.reduceGT, Int.reduceGE, Int.reduceAdd, Int.reduceSub, Int.reduceMul, Int.reduceToNat, Int.reduceEq, ne_eq, eq_self]
theorem c51 (hC : Lib08A C) (n : Int) (B : Hp) : C 51 [.int .i64 n] B = some (.bool (decide (n > 64)), B) := hC.f51 _ _ _ (run51 C n B)

def okE (c : Ce) : Nat := if okC c = true then 0 else 1
theorem okC_no {c : Ce} (h : ¬ (1 ≤ c.k.length ∧ c.k.length ≤ 40 ∧ 0 ≤ c.g ∧ c.g ≤ 2048 ∧ (c.g > 64 → c.v = [] ∧ 2 ≤ c.p ∧ c.p ≤ 1023) ∧ (¬ c.g > 64 → (c.v.length : Int) = c.g ∧ c.p = 0))) : okC c = false := by
  rw [Bool.eq_false_iff, ne_eq, okC_iff]; exact h
theorem ceD_eq (c : Ce) : ceD c = .agg [.str c.k, .str c.v, .int .i64 c.g, .int .i64 c.p] := rfl

set_option maxRecDepth 10000 in
set_option maxHeartbeats 1000000 in
theorem run21 (hC : Lib08A C) (c : Ce) (hv : c.v.length ≤ 9223372036854775807) (B : Hp) : runV T C fi21 [ceD c] B = some (errD (okE c), B) := by
  rw [e_run _ _ _ rfl]
  rw [ceD_eq]
  have c1 := c56 hC.toLib09A c.k
  have c2 := c51 hC c.g
  unfold okE
  unfold keyE at c1
  by_cases hk : 1 ≤ c.k.length ∧ c.k.length ≤ 40
  · rw [if_pos hk, errD_zero] at c1
    by_cases g1 : c.g < 0
    · rw [okC_no (fun h => by omega)]
      simp only [fi21, Tryd.f21, an21, c1, g1, T3, T4, T9, T28, T45, T85, EL, e_finWf, e_finWt, e_finMN, e_finMX, retM, meltV, tupV, D.asBox, D.row1, D.freeR, D.freeO, List.replicate_succ, stepD, accs, accP, accW, simpleOp, isAl, isExt, flipD, D.fresh1, D.row, D.plain, D.plain.plainL, St.close, St.close1, St.borrow, retV, resV, resL, outCL, outC, outL, outD, wantedV, opV, An.mid, thawV, St.settle, D.plainU, prune, envOf, get, put, eval, evalT, nz, argsV, capsV, ofV, binV, binV.aggV, unV, intV, eqOp, isConst, natV, optV, loadV, loadC, storeV, setC, St.at_, partV, partTy, indexAddrV, fieldAddrV, sliceV, sliceV.rowSl, sliceV.strSl, bounds, cutP, builtinV, lenV, maxL, maxV, appendV, St.elems, roomy, rowOf, rowS, isStr, esz, tdOf, convV, buildV, fillV, partsV, okParts, fillL, D.whole, D.demoteC, D.demote, demoteL, D.global, D.flat, D.leaf, D.cells, TI.agg, TD.rowish, callOpV, moveL, CC, keepB, St.borrowL, St.borrow, D.isLsl, adoptR, adoptC, adoptCL, adoptL, adopt, List.toArray, Array.toList, Nat.reduceEqDiff, Nat.reduceAdd, Nat.reduceSub, Nat.reduceMul, Nat.reduceLeDiff, Nat.reduceLT, reduceIte, reduceCtorEq, forall_const, imp_self, Int.reduceNeg, Int.reduceLT, Int.reduceLE, Int.reduceGT, Int.reduceGE, Int.reduceAdd, Int.reduceSub, Int.reduceMul, Int.reduceToNat, Int.reduceEq, ne_eq, eq_self]
      rfl
    by_cases g2 : c.g > 2048
    · rw [okC_no (fun h => by omega)]
      simp only [fi21, Tryd.f21, an21, c1, g1, g2, T3, T4, T9, T28, T45, T85, EL, e_finWf, e_finWt, e_finMN, e_finMX, retM, meltV, tupV, D.asBox, D.row1, D.freeR, D.freeO, List.replicate_succ, stepD, accs, accP, accW, simpleOp, isAl, isExt, flipD, D.fresh1, D.row, D.plain, D.plain.plainL, St.close, St.close1, St.borrow, retV, resV, resL, outCL, outC, outL, outD, wantedV, opV, An.mid, thawV, St.settle, D.plainU, prune, envOf, get, put, eval, evalT, nz, argsV, capsV, ofV, binV, binV.aggV, unV, intV, eqOp, isConst, natV, optV, loadV, loadC, storeV, setC, St.at_, partV, partTy, indexAddrV, fieldAddrV, sliceV, sliceV.rowSl, sliceV.strSl, bounds, cutP, builtinV, lenV, maxL, maxV, appendV, St.elems, roomy, rowOf, rowS, isStr, esz, tdOf, convV, buildV, fillV, partsV, okParts, fillL, D.whole, D.demoteC, D.demote, demoteL, D.global, D.flat, D.leaf, D.cells, TI.agg, TD.rowish, callOpV, moveL, CC, keepB, St.borrowL, St.borrow, D.isLsl, adoptR, adoptC, adoptCL, adoptL, adopt, List.toArray, Array.toList, Nat.reduceEqDiff, Nat.reduceAdd, Nat.reduceSub, Nat.reduceMul, Nat.reduceLeDiff, Nat.reduceLT, reduceIte, reduceCtorEq, forall_const, imp_self, Int.reduceNeg, Int.reduceLT, Int.reduceLE, Int.reduceGT, Int.reduceGE, Int.reduceAdd, Int.reduceSub, Int.reduceMul, Int.reduceToNat, Int.reduceEq, ne_eq, eq_self]
      rfl
    by_cases g3 : c.g > 64
    · rw [decide_eq_true g3] at c2
      have sv : strV .eql c.v [] = some (.bool (decide (c.v = []))) := by
        show some (D.bool (c.v == [])) = _
        cases c.v <;> rfl
      by_cases g4 : c.v = []
      · rw [decide_eq_true g4] at sv
        by_cases g5 : c.p ≥ 2
        · by_cases g6 : c.p < 1024
          · rw [(okC_iff c).2 ⟨hk.1, hk.2, by omega, by omega, fun _ => ⟨g4, by omega, by omega⟩, fun h => absurd g3 h⟩]
            by_cases e1 : ((c.v.length : Nat) : Int) = c.g <;> by_cases e2 : c.p = 0 <;>
            · simp only [fi21, Tryd.f21, an21, c1, c2, g1, g2, g5, g6, sv, e1, e2, T3, T4, T9, T28, T45, T85, EL, e_finWf, e_finWt, e_finMN, e_finMX, retM, meltV, tupV, D.asBox, D.row1, D.freeR, D.freeO, List.replicate_succ, stepD, accs, accP, accW, simpleOp, isAl, isExt, flipD, D.fresh1, D.row, D.plain, D.plain.plainL, St.close, St.close1, St.borrow, retV, resV, resL, outCL, outC, outL, outD, wantedV, opV, An.mid, thawV, St.settle, D.plainU, prune, envOf, get, put, eval, evalT, nz, argsV, capsV, ofV, binV, binV.aggV, unV, intV, eqOp, isConst, natV, optV, loadV, loadC, storeV, setC, St.at_, partV, partTy, indexAddrV, fieldAddrV, sliceV, sliceV.rowSl, sliceV.strSl, bounds, cutP, builtinV, lenV, maxL, maxV, appendV, St.elems, roomy, rowOf, rowS, isStr, esz, tdOf, convV, buildV, fillV, partsV, okParts, fillL, D.whole, D.demoteC, D.demote, demoteL, D.global, D.flat, D.leaf, D.cells, TI.agg, TD.rowish, callOpV, moveL, CC, keepB, St.borrowL, St.borrow, D.isLsl, adoptR, adoptC, adoptCL, adoptL, adopt, List.toArray, Array.toList, Nat.reduceEqDiff, Nat.reduceAdd, Nat.reduceSub, Nat.reduceMul, Nat.reduceLeDiff, Nat.reduceLT, reduceIte, reduceCtorEq, forall_const, imp_self, Int.reduceNeg, Int.reduceLT, Int.reduceLE, Int.reduceGT, Int.reduceGE, Int.reduceAdd, Int.reduceSub, Int.reduceMul, Int.reduceToNat, Int.reduceEq, ne_eq, eq_self]
              first | rfl | (exfalso; omega)
          · rw [okC_no (fun h => by have := h.2.2.2.2.1 g3; omega)]
            by_cases e1 : ((c.v.length : Nat) : Int) = c.g <;> by_cases e2 : c.p = 0 <;>
            · simp only [fi21, Tryd.f21, an21, c1, c2, g1, g2, g5, g6, sv, e1, e2, T3, T4, T9, T28, T45, T85, EL, e_finWf, e_finWt, e_finMN, e_finMX, retM, meltV, tupV, D.asBox, D.row1, D.freeR, D.freeO, List.replicate_succ, stepD, accs, accP, accW, simpleOp, isAl, isExt, flipD, D.fresh1, D.row, D.plain, D.plain.plainL, St.close, St.close1, St.borrow, retV, resV, resL, outCL, outC, outL, outD, wantedV, opV, An.mid, thawV, St.settle, D.plainU, prune, envOf, get, put, eval, evalT, nz, argsV, capsV, ofV, binV, binV.aggV, unV, intV, eqOp, isConst, natV, optV, loadV, loadC, storeV, setC, St.at_, partV, partTy, indexAddrV, fieldAddrV, sliceV, sliceV.rowSl, sliceV.strSl, bounds, cutP, builtinV, lenV, maxL, maxV, appendV, St.elems, roomy, rowOf, rowS, isStr, esz, tdOf, convV, buildV, fillV, partsV, okParts, fillL, D.whole, D.demoteC, D.demote, demoteL, D.global, D.flat, D.leaf, D.cells, TI.agg, TD.rowish, callOpV, moveL, CC, keepB, St.borrowL, St.borrow, D.isLsl, adoptR, adoptC, adoptCL, adoptL, adopt, List.toArray, Array.toList, Nat.reduceEqDiff, Nat.reduceAdd, Nat.reduceSub, Nat.reduceMul, Nat.reduceLeDiff, Nat.reduceLT, reduceIte, reduceCtorEq, forall_const, imp_self, Int.reduceNeg, Int.reduceLT, Int.reduceLE, Int.reduceGT, Int.reduceGE, Int.reduceAdd, Int.reduceSub, Int.reduceMul, Int.reduceToNat, Int.reduceEq, ne_eq, eq_self]
              try rfl
        · rw [okC_no (fun h => by have := h.2.2.2.2.1 g3; omega)]
          by_cases e1 : ((c.v.length : Nat) : Int) = c.g <;> by_cases e2 : c.p = 0 <;>
          · simp only [fi21, Tryd.f21, an21, c1, c2, g1, g2, g5, sv, e1, e2, T3, T4, T9, T28, T45, T85, EL, e_finWf, e_finWt, e_finMN, e_finMX, retM, meltV, tupV, D.asBox, D.row1, D.freeR, D.freeO, List.replicate_succ, stepD, accs, accP, accW, simpleOp, isAl, isExt, flipD, D.fresh1, D.row, D.plain, D.plain.plainL, St.close, St.close1, St.borrow, retV, resV, resL, outCL, outC, outL, outD, wantedV, opV, An.mid, thawV, St.settle, D.plainU, prune, envOf, get, put, eval, evalT, nz, argsV, capsV, ofV, binV, binV.aggV, unV, intV, eqOp, isConst, natV, optV, loadV, loadC, storeV, setC, St.at_, partV, partTy, indexAddrV, fieldAddrV, sliceV, sliceV.rowSl, sliceV.strSl, bounds, cutP, builtinV, lenV, maxL, maxV, appendV, St.elems, roomy, rowOf, rowS, isStr, esz, tdOf, convV, buildV, fillV, partsV, okParts, fillL, D.whole, D.demoteC, D.demote, demoteL, D.global, D.flat, D.leaf, D.cells, TI.agg, TD.rowish, callOpV, moveL, CC, keepB, St.borrowL, St.borrow, D.isLsl, adoptR, adoptC, adoptCL, adoptL, adopt, List.toArray, Array.toList, Nat.reduceEqDiff, Nat.reduceAdd, Nat.reduceSub, Nat.reduceMul, Nat.reduceLeDiff, Nat.reduceLT, reduceIte, reduceCtorEq, forall_const, imp_self, Int.reduceNeg, Int.reduceLT, Int.reduceLE, Int.reduceGT, Int.reduceGE, Int.reduceAdd, Int.reduceSub, Int.reduceMul, Int.reduceToNat, Int.reduceEq, ne_eq, eq_self]
            try rfl
      · rw [decide_eq_false g4] at sv
        rw [okC_no (fun h => g4 (h.2.2.2.2.1 g3).1)]
        by_cases e1 : ((c.v.length : Nat) : Int) = c.g <;> by_cases e2 : c.p = 0 <;>
        · simp only [fi21, Tryd.f21, an21, c1, c2, g1, g2, sv, e1, e2, T3, T4, T9, T28, T45, T85, EL, e_finWf, e_finWt, e_finMN, e_finMX, retM, meltV, tupV, D.asBox, D.row1, D.freeR, D.freeO, List.replicate_succ, stepD, accs, accP, accW, simpleOp, isAl, isExt, flipD, D.fresh1, D.row, D.plain, D.plain.plainL, St.close, St.close1, St.borrow, retV, resV, resL, outCL, outC, outL, outD, wantedV, opV, An.mid, thawV, St.settle, D.plainU, prune, envOf, get, put, eval, evalT, nz, argsV, capsV, ofV, binV, binV.aggV, unV, intV, eqOp, isConst, natV, optV, loadV, loadC, storeV, setC, St.at_, partV, partTy, indexAddrV, fieldAddrV, sliceV, sliceV.rowSl, sliceV.strSl, bounds, cutP, builtinV, lenV, maxL, maxV, appendV, St.elems, roomy, rowOf, rowS, isStr, esz, tdOf, convV, buildV, fillV, partsV, okParts, fillL, D.whole, D.demoteC, D.demote, demoteL, D.global, D.flat, D.leaf, D.cells, TI.agg, TD.rowish, callOpV, moveL, CC, keepB, St.borrowL, St.borrow, D.isLsl, adoptR, adoptC, adoptCL, adoptL, adopt, List.toArray, Array.toList, Nat.reduceEqDiff, Nat.reduceAdd, Nat.reduceSub, Nat.reduceMul, Nat.reduceLeDiff, Nat.reduceLT, reduceIte, reduceCtorEq, forall_const, imp_self, Int.reduceNeg, Int.reduceLT, Int.reduceLE, Int.reduceGT, Int.reduceGE, Int.reduceAdd, Int.reduceSub, Int.reduceMul, Int.reduceToNat, Int.reduceEq, ne_eq, eq_self]
          try rfl
    · rw [decide_eq_false g3] at c2
      by_cases e1 : ((c.v.length : Nat) : Int) = c.g
      · by_cases e2 : c.p = 0
        · rw [(okC_iff c).2 ⟨hk.1, hk.2, by omega, by omega, fun h => absurd h g3, fun _ => ⟨e1, e2⟩⟩]
          simp only [fi21, Tryd.f21, an21, c1, c2, g1, g2, e1, e2, T3, T4, T9, T28, T45, T85, EL, e_finWf, e_finWt, e_finMN, e_finMX, retM, meltV, tupV, D.asBox, D.row1, D.freeR, D.freeO, List.replicate_succ, stepD, accs, accP, accW, simpleOp, isAl, isExt, flipD, D.fresh1, D.row, D.plain, D.plain.plainL, St.close, St.close1, St.borrow, retV, resV, resL, outCL, outC, outL, outD, wantedV, opV, An.mid, thawV, St.settle, D.plainU, prune, envOf, get, put, eval, evalT, nz, argsV, capsV, ofV, binV, binV.aggV, unV, intV, eqOp, isConst, natV, optV, loadV, loadC, storeV, setC, St.at_, partV, partTy, indexAddrV, fieldAddrV, sliceV, sliceV.rowSl, sliceV.strSl, bounds, cutP, builtinV, lenV, maxL, maxV, appendV, St.elems, roomy, rowOf, rowS, isStr, esz, tdOf, convV, buildV, fillV, partsV, okParts, fillL, D.whole, D.demoteC, D.demote, demoteL, D.global, D.flat, D.leaf, D.cells, TI.agg, TD.rowish, callOpV, moveL, CC, keepB, St.borrowL, St.borrow, D.isLsl, adoptR, adoptC, adoptCL, adoptL, adopt, List.toArray, Array.toList, Nat.reduceEqDiff, Nat.reduceAdd, Nat.reduceSub, Nat.reduceMul, Nat.reduceLeDiff, Nat.reduceLT, reduceIte, reduceCtorEq, forall_const, imp_self, Int.reduceNeg, Int.reduceLT, Int.reduceLE, Int.reduceGT, Int.reduceGE, Int.reduceAdd, Int.reduceSub, Int.reduceMul, Int.reduceToNat, Int.reduceEq, ne_eq, eq_self]
          rfl
        · rw [okC_no (fun h => e2 (h.2.2.2.2.2 g3).2)]
          simp only [fi21, Tryd.f21, an21, c1, c2, g1, g2, e1, e2, T3, T4, T9, T28, T45, T85, EL, e_finWf, e_finWt, e_finMN, e_finMX, retM, meltV, tupV, D.asBox, D.row1, D.freeR, D.freeO, List.replicate_succ, stepD, accs, accP, accW, simpleOp, isAl, isExt, flipD, D.fresh1, D.row, D.plain, D.plain.plainL, St.close, St.close1, St.borrow, retV, resV, resL, outCL, outC, outL, outD, wantedV, opV, An.mid, thawV, St.settle, D.plainU, prune, envOf, get, put, eval, evalT, nz, argsV, capsV, ofV, binV, binV.aggV, unV, intV, eqOp, isConst, natV, optV, loadV, loadC, storeV, setC, St.at_, partV, partTy, indexAddrV, fieldAddrV, sliceV, sliceV.rowSl, sliceV.strSl, bounds, cutP, builtinV, lenV, maxL, maxV, appendV, St.elems, roomy, rowOf, rowS, isStr, esz, tdOf, convV, buildV, fillV, partsV, okParts, fillL, D.whole, D.demoteC, D.demote, demoteL, D.global, D.flat, D.leaf, D.cells, TI.agg, TD.rowish, callOpV, moveL, CC, keepB, St.borrowL, St.borrow, D.isLsl, adoptR, adoptC, adoptCL, adoptL, adopt, List.toArray, Array.toList, Nat.reduceEqDiff, Nat.reduceAdd, Nat.reduceSub, Nat.reduceMul, Nat.reduceLeDiff, Nat.reduceLT, reduceIte, reduceCtorEq, forall_const, imp_self, Int.reduceNeg, Int.reduceLT, Int.reduceLE, Int.reduceGT, Int.reduceGE, Int.reduceAdd, Int.reduceSub, Int.reduceMul, Int.reduceToNat, Int.reduceEq, ne_eq, eq_self]
          rfl
      · rw [okC_no (fun h => e1 (h.2.2.2.2.2 g3).1)]
        simp only [fi21, Tryd.f21, an21, c1, c2, g1, g2, e1, T3, T4, T9, T28, T45, T85, EL, e_finWf, e_finWt, e_finMN, e_finMX, retM, meltV, tupV, D.asBox, D.row1, D.freeR, D.freeO, List.replicate_succ, stepD, accs, accP, accW, simpleOp, isAl, isExt, flipD, D.fresh1, D.row, D.plain, D.plain.plainL, St.close, St.close1, St.borrow, retV, resV, resL, outCL, outC, outL, outD, wantedV, opV, An.mid, thawV, St.settle, D.plainU, prune, envOf, get, put, eval, evalT, nz, argsV, capsV, ofV, binV, binV.aggV, unV, intV, eqOp, isConst, natV, optV, loadV, loadC, storeV, setC, St.at_, partV, partTy, indexAddrV, fieldAddrV, sliceV, sliceV.rowSl, sliceV.strSl, bounds, cutP, builtinV, lenV, maxL, maxV, appendV, St.elems, roomy, rowOf, rowS, isStr, esz, tdOf, convV, buildV, fillV, partsV, okParts, fillL, D.whole, D.demoteC, D.demote, demoteL, D.global, D.flat, D.leaf, D.cells, TI.agg, TD.rowish, callOpV, moveL, CC, keepB, St.borrowL, St.borrow, D.isLsl, adoptR, adoptC, adoptCL, adoptL, adopt, List.toArray, Array.toList, Nat.reduceEqDiff, Nat.reduceAdd, Nat.reduceSub, Nat.reduceMul, Nat.reduceLeDiff, Nat.reduceLT, reduceIte, reduceCtorEq, forall_const, imp_self, Int.reduceNeg, Int.reduceLT, Int.reduceLE, Int.reduceGT, Int.reduceGE, Int.reduceAdd, Int.reduceSub, Int.reduceMul, Int.reduceToNat, Int.reduceEq, ne_eq, eq_self]
        rfl
  · rw [if_neg hk, errD_pos (by decide)] at c1
    rw [okC_no (fun h => hk ⟨h.1, h.2.1⟩)]
    simp only [fi21, Tryd.f21, an21, c1, T3, T4, T9, T28, T45, T85, EL, e_finWf, e_finWt, e_finMN, e_finMX, retM, meltV, tupV, D.asBox, D.row1, D.freeR, D.freeO, List.replicate_succ, stepD, accs, accP, accW, simpleOp, isAl, isExt, flipD, D.fresh1, D.row, D.plain, D.plain.plainL, St.close, St.close1, St.borrow, retV, resV, resL, outCL, outC, outL, outD, wantedV, opV, An.mid, thawV, St.settle, D.plainU, prune, envOf, get, put, eval, evalT, nz, argsV, capsV, ofV, binV, binV.aggV, unV, intV, eqOp, isConst, natV, optV, loadV, loadC, storeV, setC, St.at_, partV, partTy, indexAddrV, fieldAddrV, sliceV, sliceV.rowSl, sliceV.strSl, bounds, cutP, builtinV, lenV, maxL, maxV, appendV, St.elems, roomy, rowOf, rowS, isStr, esz, tdOf, convV, buildV, fillV, partsV, okParts, fillL, D.whole, D.demoteC, D.demote, demoteL, D.global, D.flat, D.leaf, D.cells, TI.agg, TD.rowish, callOpV, moveL, CC, keepB, St.borrowL, St.borrow, D.isLsl, adoptR, adoptC, adoptCL, adoptL, adopt, List.toArray, Array.toList, Nat.reduceEqDiff, Nat.reduceAdd, Nat.reduceSub, Nat.reduceMul, Nat.reduceLeDiff, Nat.reduceLT, reduceIte, reduceCtorEq, forall_const, imp_self, Int.reduceNeg, Int.reduceLT, Int.reduceLE, Int.reduceGT, Int.reduceGE, Int.reduceAdd, Int.reduceSub, Int.reduceMul, Int.reduceToNat, Int.reduceEq, ne_eq, eq_self]
    rfl
theorem c21 (hC : Lib08A C) (c : Ce) (hv : c.v.length ≤ 9223372036854775807) (B : Hp) : C 21 [.agg [.str c.k, .str c.v, .int .i64 c.g, .int .i64 c.p]] B = some (errD (okE c), B) := hC.f21 _ _ _ (run21 hC c hv B)

set_option maxRecDepth 10000 in
set_option maxHeartbeats 1000000 in
theorem run22 (C : Callees) (c : Ce) (B : Hp) : runV T C fi22 [ceD c] B = some (.bool (okC c), B) := by
  rw [e_run _ _ _ rfl]
  rw [ceD_eq]
  by_cases h1 : 1 ≤ c.k.length
  · have k1 : ¬ (c.k.length : Int) < 1 := by omega
    by_cases h2 : c.k.length ≤ 40
    · have k2 : ¬ (c.k.length : Int) > 40 := by omega
      by_cases g1 : c.g < 0
      · rw [okC_no (fun h => by omega)]
        simp only [fi22, Tryd.f22, an22, k1, k2, g1, T3, T9, T26, EL, e_finWf, e_finWt, e_finMN, e_finMX, retM, meltV, tupV, D.asBox, D.row1, D.freeR, D.freeO, List.replicate_succ, stepD, accs, accP, accW, simpleOp, isAl, isExt, flipD, D.fresh1, D.row, D.plain, D.plain.plainL, St.close, St.close1, St.borrow, retV, resV, resL, outCL, outC, outL, outD, wantedV, opV, An.mid, thawV, St.settle, D.plainU, prune, envOf, get, put, eval, evalT, nz, argsV, capsV, ofV, binV, binV.aggV, unV, intV, eqOp, isConst, natV, optV, loadV, loadC, storeV, setC, St.at_, partV, partTy, indexAddrV, fieldAddrV, sliceV, sliceV.rowSl, sliceV.strSl, bounds, cutP, builtinV, lenV, maxL, maxV, appendV, St.elems, roomy, rowOf, rowS, isStr, esz, tdOf, convV, buildV, fillV, partsV, okParts, fillL, D.whole, D.demoteC, D.demote, demoteL, D.global, D.flat, D.leaf, D.cells, TI.agg, TD.rowish, callOpV, moveL, CC, keepB, St.borrowL, St.borrow, D.isLsl, adoptR, adoptC, adoptCL, adoptL, adopt, List.toArray, Array.toList, Nat.reduceEqDiff, Nat.reduceAdd, Nat.reduceSub, Nat.reduceMul, Nat.reduceLeDiff, Nat.reduceLT, reduceIte, reduceCtorEq, forall_const, imp_self, Int.reduceNeg, Int.reduceLT, Int.reduceLE, Int.reduceGT, Int.reduceGE, Int.reduceAdd, Int.reduceSub, Int.reduceMul, Int.reduceToNat, Int.reduceEq, ne_eq, eq_self]
      by_cases g2 : c.g > 2048
      · rw [okC_no (fun h => by omega)]
        simp only [fi22, Tryd.f22, an22, k1, k2, g1, g2, T3, T9, T26, EL, e_finWf, e_finWt, e_finMN, e_finMX, retM, meltV, tupV, D.asBox, D.row1, D.freeR, D.freeO, List.replicate_succ, stepD, accs, accP, accW, simpleOp, isAl, isExt, flipD, D.fresh1, D.row, D.plain, D.plain.plainL, St.close, St.close1, St.borrow, retV, resV, resL, outCL, outC, outL, outD, wantedV, opV, An.mid, thawV, St.settle, D.plainU, prune, envOf, get, put, eval, evalT, nz, argsV, capsV, ofV, binV, binV.aggV, unV, intV, eqOp, isConst, natV, optV, loadV, loadC, storeV, setC, St.at_, partV, partTy, indexAddrV, fieldAddrV, sliceV, sliceV.rowSl, sliceV.strSl, bounds, cutP, builtinV, lenV, maxL, maxV, appendV, St.elems, roomy, rowOf, rowS, isStr, esz, tdOf, convV, buildV, fillV, partsV, okParts, fillL, D.whole, D.demoteC, D.demote, demoteL, D.global, D.flat, D.leaf, D.cells, TI.agg, TD.rowish, callOpV, moveL, CC, keepB, St.borrowL, St.borrow, D.isLsl, adoptR, adoptC, adoptCL, adoptL, adopt, List.toArray, Array.toList, Nat.reduceEqDiff, Nat.reduceAdd, Nat.reduceSub, Nat.reduceMul, Nat.reduceLeDiff, Nat.reduceLT, reduceIte, reduceCtorEq, forall_const, imp_self, Int.reduceNeg, Int.reduceLT, Int.reduceLE, Int.reduceGT, Int.reduceGE, Int.reduceAdd, Int.reduceSub, Int.reduceMul, Int.reduceToNat, Int.reduceEq, ne_eq, eq_self]
      by_cases g3 : c.g > 64
      · have sv : strV .eql c.v [] = some (.bool (decide (c.v = []))) := by
          show some (D.bool (c.v == [])) = _
          cases c.v <;> rfl
        by_cases g4 : c.v = []
        · rw [decide_eq_true g4] at sv
          by_cases g5 : c.p ≥ 2
          · by_cases g6 : c.p ≤ 1023
            · rw [(okC_iff c).2 ⟨h1, h2, by omega, by omega, fun _ => ⟨g4, by omega, by omega⟩, fun h => absurd g3 h⟩]
              simp only [fi22, Tryd.f22, an22, k1, k2, g1, g2, g3, g5, g6, sv, T3, T9, T26, EL, e_finWf, e_finWt, e_finMN, e_finMX, retM, meltV, tupV, D.asBox, D.row1, D.freeR, D.freeO, List.replicate_succ, stepD, accs, accP, accW, simpleOp, isAl, isExt, flipD, D.fresh1, D.row, D.plain, D.plain.plainL, St.close, St.close1, St.borrow, retV, resV, resL, outCL, outC, outL, outD, wantedV, opV, An.mid, thawV, St.settle, D.plainU, prune, envOf, get, put, eval, evalT, nz, argsV, capsV, ofV, binV, binV.aggV, unV, intV, eqOp, isConst, natV, optV, loadV, loadC, storeV, setC, St.at_, partV, partTy, indexAddrV, fieldAddrV, sliceV, sliceV.rowSl, sliceV.strSl, bounds, cutP, builtinV, lenV, maxL, maxV, appendV, St.elems, roomy, rowOf, rowS, isStr, esz, tdOf, convV, buildV, fillV, partsV, okParts, fillL, D.whole, D.demoteC, D.demote, demoteL, D.global, D.flat, D.leaf, D.cells, TI.agg, TD.rowish, callOpV, moveL, CC, keepB, St.borrowL, St.borrow, D.isLsl, adoptR, adoptC, adoptCL, adoptL, adopt, List.toArray, Array.toList, Nat.reduceEqDiff, Nat.reduceAdd, Nat.reduceSub, Nat.reduceMul, Nat.reduceLeDiff, Nat.reduceLT, reduceIte, reduceCtorEq, forall_const, imp_self, Int.reduceNeg, Int.reduceLT, Int.reduceLE, Int.reduceGT, Int.reduceGE, Int.reduceAdd, Int.reduceSub, Int.reduceMul, Int.reduceToNat, Int.reduceEq, ne_eq, eq_self]
            · rw [okC_no (fun h => by have := h.2.2.2.2.1 g3; omega)]
              simp only [fi22, Tryd.f22, an22, k1, k2, g1, g2, g3, g5, g6, sv, T3, T9, T26, EL, e_finWf, e_finWt, e_finMN, e_finMX, retM, meltV, tupV, D.asBox, D.row1, D.freeR, D.freeO, List.replicate_succ, stepD, accs, accP, accW, simpleOp, isAl, isExt, flipD, D.fresh1, D.row, D.plain, D.plain.plainL, St.close, St.close1, St.borrow, retV, resV, resL, outCL, outC, outL, outD, wantedV, opV, An.mid, thawV, St.settle, D.plainU, prune, envOf, get, put, eval, evalT, nz, argsV, capsV, ofV, binV, binV.aggV, unV, intV, eqOp, isConst, natV, optV, loadV, loadC, storeV, setC, St.at_, partV, partTy, indexAddrV, fieldAddrV, sliceV, sliceV.rowSl, sliceV.strSl, bounds, cutP, builtinV, lenV, maxL, maxV, appendV, St.elems, roomy, rowOf, rowS, isStr, esz, tdOf, convV, buildV, fillV, partsV, okParts, fillL, D.whole, D.demoteC, D.demote, demoteL, D.global, D.flat, D.leaf, D.cells, TI.agg, TD.rowish, callOpV, moveL, CC, keepB, St.borrowL, St.borrow, D.isLsl, adoptR, adoptC, adoptCL, adoptL, adopt, List.toArray, Array.toList, Nat.reduceEqDiff, Nat.reduceAdd, Nat.reduceSub, Nat.reduceMul, Nat.reduceLeDiff, Nat.reduceLT, reduceIte, reduceCtorEq, forall_const, imp_self, Int.reduceNeg, Int.reduceLT, Int.reduceLE, Int.reduceGT, Int.reduceGE, Int.reduceAdd, Int.reduceSub, Int.reduceMul, Int.reduceToNat, Int.reduceEq, ne_eq, eq_self]
          · rw [okC_no (fun h => by have := h.2.2.2.2.1 g3; omega)]
            simp only [fi22, Tryd.f22, an22, k1, k2, g1, g2, g3, g5, sv, T3, T9, T26, EL, e_finWf, e_finWt, e_finMN, e_finMX, retM, meltV, tupV, D.asBox, D.row1, D.freeR, D.freeO, List.replicate_succ, stepD, accs, accP, accW, simpleOp, isAl, isExt, flipD, D.fresh1, D.row, D.plain, D.plain.plainL, St.close, St.close1, St.borrow, retV, resV, resL, outCL, outC, outL, outD, wantedV, opV, An.mid, thawV, St.settle, D.plainU, prune, envOf, get, put, eval, evalT, nz, argsV, capsV, ofV, binV, binV.aggV, unV, intV, eqOp, isConst, natV, optV, loadV, loadC, storeV, setC, St.at_, partV, partTy, indexAddrV, fieldAddrV, sliceV, sliceV.rowSl, sliceV.strSl, bounds, cutP, builtinV, lenV, maxL, maxV, appendV, St.elems, roomy, rowOf, rowS, isStr, esz, tdOf, convV, buildV, fillV, partsV, okParts, fillL, D.whole, D.demoteC, D.demote, demoteL, D.global, D.flat, D.leaf, D.cells, TI.agg, TD.rowish, callOpV, moveL, CC, keepB, St.borrowL, St.borrow, D.isLsl, adoptR, adoptC, adoptCL, adoptL, adopt, List.toArray, Array.toList, Nat.reduceEqDiff, Nat.reduceAdd, Nat.reduceSub, Nat.reduceMul, Nat.reduceLeDiff, Nat.reduceLT, reduceIte, reduceCtorEq, forall_const, imp_self, Int.reduceNeg, Int.reduceLT, Int.reduceLE, Int.reduceGT, Int.reduceGE, Int.reduceAdd, Int.reduceSub, Int.reduceMul, Int.reduceToNat, Int.reduceEq, ne_eq, eq_self]
        · rw [decide_eq_false g4] at sv
          rw [okC_no (fun h => g4 (h.2.2.2.2.1 g3).1)]
          simp only [fi22, Tryd.f22, an22, k1, k2, g1, g2, g3, sv, T3, T9, T26, EL, e_finWf, e_finWt, e_finMN, e_finMX, retM, meltV, tupV, D.asBox, D.row1, D.freeR, D.freeO, List.replicate_succ, stepD, accs, accP, accW, simpleOp, isAl, isExt, flipD, D.fresh1, D.row, D.plain, D.plain.plainL, St.close, St.close1, St.borrow, retV, resV, resL, outCL, outC, outL, outD, wantedV, opV, An.mid, thawV, St.settle, D.plainU, prune, envOf, get, put, eval, evalT, nz, argsV, capsV, ofV, binV, binV.aggV, unV, intV, eqOp, isConst, natV, optV, loadV, loadC, storeV, setC, St.at_, partV, partTy, indexAddrV, fieldAddrV, sliceV, sliceV.rowSl, sliceV.strSl, bounds, cutP, builtinV, lenV, maxL, maxV, appendV, St.elems, roomy, rowOf, rowS, isStr, esz, tdOf, convV, buildV, fillV, partsV, okParts, fillL, D.whole, D.demoteC, D.demote, demoteL, D.global, D.flat, D.leaf, D.cells, TI.agg, TD.rowish, callOpV, moveL, CC, keepB, St.borrowL, St.borrow, D.isLsl, adoptR, adoptC, adoptCL, adoptL, adopt, List.toArray, Array.toList, Nat.reduceEqDiff, Nat.reduceAdd, Nat.reduceSub, Nat.reduceMul, Nat.reduceLeDiff, Nat.reduceLT, reduceIte, reduceCtorEq, forall_const, imp_self, Int.reduceNeg, Int.reduceLT, Int.reduceLE, Int.reduceGT, Int.reduceGE, Int.reduceAdd, Int.reduceSub, Int.reduceMul, Int.reduceToNat, Int.reduceEq, ne_eq, eq_self]
      · by_cases e1 : ((c.v.length : Nat) : Int) = c.g
        · by_cases e2 : c.p = 0
          · rw [(okC_iff c).2 ⟨h1, h2, by omega, by omega, fun h => absurd h g3, fun _ => ⟨e1, e2⟩⟩]
            simp only [fi22, Tryd.f22, an22, k1, k2, g1, g2, g3, e1, e2, T3, T9, T26, EL, e_finWf, e_finWt, e_finMN, e_finMX, retM, meltV, tupV, D.asBox, D.row1, D.freeR, D.freeO, List.replicate_succ, stepD, accs, accP, accW, simpleOp, isAl, isExt, flipD, D.fresh1, D.row, D.plain, D.plain.plainL, St.close, St.close1, St.borrow, retV, resV, resL, outCL, outC, outL, outD, wantedV, opV, An.mid, thawV, St.settle, D.plainU, prune, envOf, get, put, eval, evalT, nz, argsV, capsV, ofV, binV, binV.aggV, unV, intV, eqOp, isConst, natV, optV, loadV, loadC, storeV, setC, St.at_, partV, partTy, indexAddrV, fieldAddrV, sliceV, sliceV.rowSl, sliceV.strSl, bounds, cutP, builtinV, lenV, maxL, maxV, appendV, St.elems, roomy, rowOf, rowS, isStr, esz, tdOf, convV, buildV, fillV, partsV, okParts, fillL, D.whole, D.demoteC, D.demote, demoteL, D.global, D.flat, D.leaf, D.cells, TI.agg, TD.rowish, callOpV, moveL, CC, keepB, St.borrowL, St.borrow, D.isLsl, adoptR, adoptC, adoptCL, adoptL, adopt, List.toArray, Array.toList, Nat.reduceEqDiff, Nat.reduceAdd, Nat.reduceSub, Nat.reduceMul, Nat.reduceLeDiff, Nat.reduceLT, reduceIte, reduceCtorEq, forall_const, imp_self, Int.reduceNeg, Int.reduceLT, Int.reduceLE, Int.reduceGT, Int.reduceGE, Int.reduceAdd, Int.reduceSub, Int.reduceMul, Int.reduceToNat, Int.reduceEq, ne_eq, eq_self]
          · rw [okC_no (fun h => e2 (h.2.2.2.2.2 g3).2)]
            simp only [fi22, Tryd.f22, an22, k1, k2, g1, g2, g3, e1, e2, T3, T9, T26, EL, e_finWf, e_finWt, e_finMN, e_finMX, retM, meltV, tupV, D.asBox, D.row1, D.freeR, D.freeO, List.replicate_succ, stepD, accs, accP, accW, simpleOp, isAl, isExt, flipD, D.fresh1, D.row, D.plain, D.plain.plainL, St.close, St.close1, St.borrow, retV, resV, resL, outCL, outC, outL, outD, wantedV, opV, An.mid, thawV, St.settle, D.plainU, prune, envOf, get, put, eval, evalT, nz, argsV, capsV, ofV, binV, binV.aggV, unV, intV, eqOp, isConst, natV, optV, loadV, loadC, storeV, setC, St.at_, partV, partTy, indexAddrV, fieldAddrV, sliceV, sliceV.rowSl, sliceV.strSl, bounds, cutP, builtinV, lenV, maxL, maxV, appendV, St.elems, roomy, rowOf, rowS, isStr, esz, tdOf, convV, buildV, fillV, partsV, okParts, fillL, D.whole, D.demoteC, D.demote, demoteL, D.global, D.flat, D.leaf, D.cells, TI.agg, TD.rowish, callOpV, moveL, CC, keepB, St.borrowL, St.borrow, D.isLsl, adoptR, adoptC, adoptCL, adoptL, adopt, List.toArray, Array.toList, Nat.reduceEqDiff, Nat.reduceAdd, Nat.reduceSub, Nat.reduceMul, Nat.reduceLeDiff, Nat.reduceLT, reduceIte, reduceCtorEq, forall_const, imp_self, Int.reduceNeg, Int.reduceLT, Int.reduceLE, Int.reduceGT, Int.reduceGE, Int.reduceAdd, Int.reduceSub, Int.reduceMul, Int.reduceToNat, Int.reduceEq, ne_eq, eq_self]
        · rw [okC_no (fun h => e1 (h.2.2.2.2.2 g3).1)]
          simp only [fi22, Tryd.f22, an22, k1, k2, g1, g2, g3, e1, T3, T9, T26, EL, e_finWf, e_finWt, e_finMN, e_finMX, retM, meltV, tupV, D.asBox, D.row1, D.freeR, D.freeO, List.replicate_succ, stepD, accs, accP, accW, simpleOp, isAl, isExt, flipD, D.fresh1, D.row, D.plain, D.plain.plainL, St.close, St.close1, St.borrow, retV, resV, resL, outCL, outC, outL, outD, wantedV, opV, An.mid, thawV, St.settle, D.plainU, prune, envOf, get, put, eval, evalT, nz, argsV, capsV, ofV, binV, binV.aggV, unV, intV, eqOp, isConst, natV, optV, loadV, loadC, storeV, setC, St.at_, partV, partTy, indexAddrV, fieldAddrV, sliceV, sliceV.rowSl, sliceV.strSl, bounds, cutP, builtinV, lenV, maxL, maxV, appendV, St.elems, roomy, rowOf, rowS, isStr, esz, tdOf, convV, buildV, fillV, partsV, okParts, fillL, D.whole, D.demoteC, D.demote, demoteL, D.global, D.flat, D.leaf, D.cells, TI.agg, TD.rowish, callOpV, moveL, CC, keepB, St.borrowL, St.borrow, D.isLsl, adoptR, adoptC, adoptCL, adoptL, adopt, List.toArray, Array.toList, Nat.reduceEqDiff, Nat.reduceAdd, Nat.reduceSub, Nat.reduceMul, Nat.reduceLeDiff, Nat.reduceLT, reduceIte, reduceCtorEq, forall_const, imp_self, Int.reduceNeg, Int.reduceLT, Int.reduceLE, Int.reduceGT, Int.reduceGE, Int.reduceAdd, Int.reduceSub, Int.reduceMul, Int.reduceToNat, Int.reduceEq, ne_eq, eq_self]
    · have k2 : (c.k.length : Int) > 40 := by omega
      rw [okC_no (fun h => h2 h.2.1)]
      simp only [fi22, Tryd.f22, an22, k1, k2, T3, T9, T26, EL, e_finWf, e_finWt, e_finMN, e_finMX, retM, meltV, tupV, D.asBox, D.row1, D.freeR, D.freeO, List.replicate_succ, stepD, accs, accP, accW, simpleOp, isAl, isExt, flipD, D.fresh1, D.row, D.plain, D.plain.plainL, St.close, St.close1, St.borrow, retV, resV, resL, outCL, outC, outL, outD, wantedV, opV, An.mid, thawV, St.settle, D.plainU, prune, envOf, get, put, eval, evalT, nz, argsV, capsV, ofV, binV, binV.aggV, unV, intV, eqOp, isConst, natV, optV, loadV, loadC, storeV, setC, St.at_, partV, partTy, indexAddrV, fieldAddrV, sliceV, sliceV.rowSl, sliceV.strSl, bounds, cutP, builtinV, lenV, maxL, maxV, appendV, St.elems, roomy, rowOf, rowS, isStr, esz, tdOf, convV, buildV, fillV, partsV, okParts, fillL, D.whole, D.demoteC, D.demote, demoteL, D.global, D.flat, D.leaf, D.cells, TI.agg, TD.rowish, callOpV, moveL, CC, keepB, St.borrowL, St.borrow, D.isLsl, adoptR, adoptC, adoptCL, adoptL, adopt, List.toArray, Array.toList, Nat.reduceEqDiff, Nat.reduceAdd, Nat.reduceSub, Nat.reduceMul, Nat.reduceLeDiff, Nat.reduceLT, reduceIte, reduceCtorEq, forall_const, imp_self, Int.reduceNeg, Int.reduceLT, Int.reduceLE, Int.reduceGT, Int.reduceGE, Int.reduceAdd, Int.reduceSub, Int.reduceMul, Int.reduceToNat, Int.reduceEq, ne_eq, eq_self]
  · have k1 : (c.k.length : Int) < 1 := by omega
    rw [okC_no (fun h => h1 h.1)]
    simp only [fi22, Tryd.f22, an22, k1, T3, T9, T26, EL, e_finWf, e_finWt, e_finMN, e_finMX, retM, meltV, tupV, D.asBox, D.row1, D.freeR, D.freeO, List.replicate_succ, stepD, accs, accP, accW, simpleOp, isAl, isExt, flipD, D.fresh1, D.row, D.plain, D.plain.plainL, St.close, St.close1, St.borrow, retV, resV, resL, outCL, outC, outL, outD, wantedV, opV, An.mid, thawV, St.settle, D.plainU, prune, envOf, get, put, eval, evalT, nz, argsV, capsV, ofV, binV, binV.aggV, unV, intV, eqOp, isConst, natV, optV, loadV, loadC, storeV, setC, St.at_, partV, partTy, indexAddrV, fieldAddrV, sliceV, sliceV.rowSl, sliceV.strSl, bounds, cutP, builtinV, lenV, maxL, maxV, appendV, St.elems, roomy, rowOf, rowS, isStr, esz, tdOf, convV, buildV, fillV, partsV, okParts, fillL, D.whole, D.demoteC, D.demote, demoteL, D.global, D.flat, D.leaf, D.cells, TI.agg, TD.rowish, callOpV, moveL, CC, keepB, St.borrowL, St.borrow, D.isLsl, adoptR, adoptC, adoptCL, adoptL, adopt, List.toArray, Array.toList, Nat.reduceEqDiff, Nat.reduceAdd, Nat.reduceSub, Nat.reduceMul, Nat.reduceLeDiff, Nat.reduceLT, reduceIte, reduceCtorEq, forall_const, imp_self, Int.reduceNeg, Int.reduceLT, Int.reduceLE, Int.reduceGT, Int.reduceGE, Int.reduceAdd, Int.reduceSub, Int.reduceMul, Int.reduceToNat, Int.reduceEq, ne_eq, eq_self]
theorem c22 (hC : Lib08A C) (c : Ce) (B : Hp) : C 22 [.agg [.str c.k, .str c.v, .int .i64 c.g, .int .i64 c.p]] B = some (.bool (okC c), B) := hC.f22 _ _ _ (run22 C c B)

/-! ### How many bytes -/
theorem vputS_size (v : Nat) : (vputS v).length = max 1 ((bitsN v + 6) / 7) := by
  induction v using vputS.induct with
  | case1 v h =>
    rw [vputS_small h]
    have := (bitsN_le v 7).2 h
    simp; omega
  | case2 v h ih =>
    rw [vputS_big h]
    have h1 := bitsN_div (v := v) (s := 7) (by omega)
    rw [show (2 : Nat) ^ 7 = 128 by decide] at h1
    have h2 : 1 ≤ bitsN (v / 128) := by
      rcases Nat.eq_zero_or_pos (bitsN (v / 128)) with h3 | h3
      · have := (bitsN_le (v / 128) 0).1 (by omega); omega
      · exact h3
    simp only [List.length_cons, ih]; omega

set_option maxRecDepth 10000 in
theorem run50 (hC : Lib08A C) (v : Nat) (hv : v < 18446744073709551616) (B : Hp) : runV T C fi50 [.int .u64 v] B = some (.int .i64 ((vputS v).length : Nat), B) := by
  rw [e_run _ _ _ rfl]
  have hb := bitsN_64 hv
  have h1 := hC.f78 _ _ _ (run78 C v hv B)
  have h2 : IntKind.i64.wrap ((bitsN v : Int) - 1 + 7) = ((bitsN v + 6 : Nat) : Int) := by rw [wrapI (by omega) (by omega)]; omega
  have h3 : IntKind.i64.wrap (((bitsN v + 6 : Nat) : Int).tdiv 7) = (((bitsN v + 6) / 7 : Nat) : Int) := by
    rw [Int.tdiv_eq_ediv_of_nonneg (by omega), wrapI (by omega) (by omega)]; omega
  have hs := vputS_size v
  by_cases hs2 : 1 < (bitsN v + 6) / 7
  · have e : (vputS v).length = (bitsN v + 6) / 7 := by omega
    have h4 : (((bitsN v + 6) / 7 : Nat) : Int) > 1 := by omega
    rw [e]
    simp only [fi50, Tryd.f50, an50, h1, h2, h3, h4, T3, EL, e_finWf, e_finWt, e_finMN, e_finMX, retM, meltV, tupV, D.asBox, D.row1, D.freeR, D.freeO, List.replicate_succ, stepD, accs, accP, accW, simpleOp, isAl, isExt, flipD, D.fresh1, D.row, D.plain, D.plain.plainL, St.close, St.close1, St.borrow, retV, resV, resL, outCL, outC, outL, outD, wantedV, opV, An.mid, thawV, St.settle, D.plainU, prune, envOf, get, put, eval, evalT, nz, argsV, capsV, ofV, binV, binV.aggV, unV, intV, eqOp, isConst, natV, optV, loadV, loadC, storeV, setC, St.at_, partV, partTy, indexAddrV, fieldAddrV, sliceV, sliceV.rowSl, sliceV.strSl, bounds, cutP, builtinV, lenV, maxL, maxV, appendV, St.elems, roomy, rowOf, rowS, isStr, esz, tdOf, convV, buildV, fillV, partsV, okParts, fillL, D.whole, D.demoteC, D.demote, demoteL, D.global, D.flat, D.leaf, D.cells, TI.agg, TD.rowish, callOpV, moveL, CC, keepB, St.borrowL, St.borrow, D.isLsl, adoptR, adoptC, adoptCL, adoptL, adopt, List.toArray, Array.toList, Nat.reduceEqDiff, Nat.reduceAdd, Nat.reduceSub, Nat.reduceMul, Nat.reduceLeDiff, Nat.reduceLT, reduceIte, reduceCtorEq, forall_const, imp_self, Int.reduceNeg, Int.reduceLT, Int.reduceLE, Int.reduceGT, Int.reduceGE, Int.reduceAdd, Int.reduceSub, Int.reduceMul, Int.reduceToNat, Int.reduceEq, ne_eq, eq_self]
  · have e : (vputS v).length = 1 := by omega
    have h4 : ¬ (((bitsN v + 6) / 7 : Nat) : Int) > 1 := by omega
    rw [e]
    simp only [fi50, Tryd.f50, an50, h1, h2, h3, h4, nlit8, T3, EL, e_finWf, e_finWt, e_finMN, e_finMX, retM, meltV, tupV, D.asBox, D.row1, D.freeR, D.freeO, List.replicate_succ, stepD, accs, accP, accW, simpleOp, isAl, isExt, flipD, D.fresh1, D.row, D.plain, D.plain.plainL, St.close, St.close1, St.borrow, retV, resV, resL, outCL, outC, outL, outD, wantedV, opV, An.mid, thawV, St.settle, D.plainU, prune, envOf, get, put, eval, evalT, nz, argsV, capsV, ofV, binV, binV.aggV, unV, intV, eqOp, isConst, natV, optV, loadV, loadC, storeV, setC, St.at_, partV, partTy, indexAddrV, fieldAddrV, sliceV, sliceV.rowSl, sliceV.strSl, bounds, cutP, builtinV, lenV, maxL, maxV, appendV, St.elems, roomy, rowOf, rowS, isStr, esz, tdOf, convV, buildV, fillV, partsV, okParts, fillL, D.whole, D.demoteC, D.demote, demoteL, D.global, D.flat, D.leaf, D.cells, TI.agg, TD.rowish, callOpV, moveL, CC, keepB, St.borrowL, St.borrow, D.isLsl, adoptR, adoptC, adoptCL, adoptL, adopt, List.toArray, Array.toList, Nat.reduceEqDiff, Nat.reduceAdd, Nat.reduceSub, Nat.reduceMul, Nat.reduceLeDiff, Nat.reduceLT, reduceIte, reduceCtorEq, forall_const, imp_self, Int.reduceNeg, Int.reduceLT, Int.reduceLE, Int.reduceGT, Int.reduceGE, Int.reduceAdd, Int.reduceSub, Int.reduceMul, Int.reduceToNat, Int.reduceEq, ne_eq, eq_self]
theorem c50 (hC : Lib08A C) (v : Nat) (hv : v < 18446744073709551616) (B : Hp) : C 50 [.int .u64 v] B = some (.int .i64 ((vputS v).length : Nat), B) := hC.f50 _ _ _ (run50 hC v hv B)

set_option maxRecDepth 10000 in
theorem run18 (hC : Lib08A C) (k : Ky) (g : Nat) (hk : k.length ≤ 1000000) (hg : g ≤ 1000000) (B : Hp) : runV T C fi18 [.str k, .int .i64 (g : Nat)] B = some (.int .i64 (sizeC k g : Nat), B) := by
  rw [e_run _ _ _ rfl]
  have c1 := c50 hC k.length (by omega)
  have c2 := c50 hC g (by omega)
  have c3 := c51 hC (g : Int)
  have w1 : IntKind.u64.wrap (k.length : Int) = k.length := wrap_u64 (by omega) (by omega)
  have w2 : IntKind.u64.wrap (g : Int) = g := wrap_u64 (by omega) (by omega)
  have l1 := vputS_len10 (v := k.length) (by omega)
  have l2 := vputS_len10 (v := g) (by omega)
  unfold sizeC
  rw [Int.toNat_natCast]
  generalize (vputS k.length).length = a at c1 l1
  generalize (vputS g).length = b at c2 l2
  have w3 : IntKind.i64.wrap ((a : Int) + (k.length : Int)) = ((a + k.length : Nat) : Int) := by rw [wrapI (by omega) (by omega)]; omega
  have w4 : IntKind.i64.wrap (((a + k.length : Nat) : Int) + (b : Int)) = ((a + k.length + b : Nat) : Int) := by rw [wrapI (by omega) (by omega)]; omega
  have w5 : IntKind.i64.wrap (((a + k.length + b : Nat) : Int) + 2) = ((a + k.length + b + 2 : Nat) : Int) := by rw [wrapI (by omega) (by omega)]; omega
  have w6 : IntKind.i64.wrap (((a + k.length + b : Nat) : Int) + (g : Int)) = ((a + k.length + b + g : Nat) : Int) := by rw [wrapI (by omega) (by omega)]; omega
  have hmax : (if (g : Int) > 0 then (g : Int) else 0) = g := by split <;> omega
  by_cases h : (g : Int) > 64
  · rw [decide_eq_true h] at c3
    simp only [h, if_true]
    have h0 : (g : Int) > 0 := by omega
    simp only [fi18, Tryd.f18, an18, c1, c2, c3, w1, w2, w3, w4, w5, h0, T3, T9, T84, EL, e_finWf, e_finWt, e_finMN, e_finMX, retM, meltV, tupV, D.asBox, D.row1, D.freeR, D.freeO, List.replicate_succ, stepD, accs, accP, accW, simpleOp, isAl, isExt, flipD, D.fresh1, D.row, D.plain, D.plain.plainL, St.close, St.close1, St.borrow, retV, resV, resL, outCL, outC, outL, outD, wantedV, opV, An.mid, thawV, St.settle, D.plainU, prune, envOf, get, put, eval, evalT, nz, argsV, capsV, ofV, binV, binV.aggV, unV, intV, eqOp, isConst, natV, optV, loadV, loadC, storeV, setC, St.at_, partV, partTy, indexAddrV, fieldAddrV, sliceV, sliceV.rowSl, sliceV.strSl, bounds, cutP, builtinV, lenV, maxL, maxV, appendV, St.elems, roomy, rowOf, rowS, isStr, esz, tdOf, convV, buildV, fillV, partsV, okParts, fillL, D.whole, D.demoteC, D.demote, demoteL, D.global, D.flat, D.leaf, D.cells, TI.agg, TD.rowish, callOpV, moveL, CC, keepB, St.borrowL, St.borrow, D.isLsl, adoptR, adoptC, adoptCL, adoptL, adopt, List.toArray, Array.toList, Nat.reduceEqDiff, Nat.reduceAdd, Nat.reduceSub, Nat.reduceMul, Nat.reduceLeDiff, Nat.reduceLT, reduceIte, reduceCtorEq, forall_const, imp_self, Int.reduceNeg, Int.reduceLT, Int.reduceLE, Int.reduceGT, Int.reduceGE, Int.reduceAdd, Int.reduceSub, Int.reduceMul, Int.reduceToNat, Int.reduceEq, ne_eq, eq_self]
  · rw [decide_eq_false h] at c3
    simp only [h, if_false]
    by_cases h0 : (g : Int) > 0
    · simp only [fi18, Tryd.f18, an18, c1, c2, c3, w1, w2, w3, w4, w6, h0, T3, T9, T84, EL, e_finWf, e_finWt, e_finMN, e_finMX, retM, meltV, tupV, D.asBox, D.row1, D.freeR, D.freeO, List.replicate_succ, stepD, accs, accP, accW, simpleOp, isAl, isExt, flipD, D.fresh1, D.row, D.plain, D.plain.plainL, St.close, St.close1, St.borrow, retV, resV, resL, outCL, outC, outL, outD, wantedV, opV, An.mid, thawV, St.settle, D.plainU, prune, envOf, get, put, eval, evalT, nz, argsV, capsV, ofV, binV, binV.aggV, unV, intV, eqOp, isConst, natV, optV, loadV, loadC, storeV, setC, St.at_, partV, partTy, indexAddrV, fieldAddrV, sliceV, sliceV.rowSl, sliceV.strSl, bounds, cutP, builtinV, lenV, maxL, maxV, appendV, St.elems, roomy, rowOf, rowS, isStr, esz, tdOf, convV, buildV, fillV, partsV, okParts, fillL, D.whole, D.demoteC, D.demote, demoteL, D.global, D.flat, D.leaf, D.cells, TI.agg, TD.rowish, callOpV, moveL, CC, keepB, St.borrowL, St.borrow, D.isLsl, adoptR, adoptC, adoptCL, adoptL, adopt, List.toArray, Array.toList, Nat.reduceEqDiff, Nat.reduceAdd, Nat.reduceSub, Nat.reduceMul, Nat.reduceLeDiff, Nat.reduceLT, reduceIte, reduceCtorEq, forall_const, imp_self, Int.reduceNeg, Int.reduceLT, Int.reduceLE, Int.reduceGT, Int.reduceGE, Int.reduceAdd, Int.reduceSub, Int.reduceMul, Int.reduceToNat, Int.reduceEq, ne_eq, eq_self]
    · have e : (g : Int) = 0 := by omega
      obtain rfl : g = 0 := by omega
      rw [pz0] at c2 c3 w2 w6
      simp only [fi18, Tryd.f18, an18, c1, c2, c3, w1, w2, w3, w4, w6, pz0, h0, T3, T9, T84, EL, e_finWf, e_finWt, e_finMN, e_finMX, retM, meltV, tupV, D.asBox, D.row1, D.freeR, D.freeO, List.replicate_succ, stepD, accs, accP, accW, simpleOp, isAl, isExt, flipD, D.fresh1, D.row, D.plain, D.plain.plainL, St.close, St.close1, St.borrow, retV, resV, resL, outCL, outC, outL, outD, wantedV, opV, An.mid, thawV, St.settle, D.plainU, prune, envOf, get, put, eval, evalT, nz, argsV, capsV, ofV, binV, binV.aggV, unV, intV, eqOp, isConst, natV, optV, loadV, loadC, storeV, setC, St.at_, partV, partTy, indexAddrV, fieldAddrV, sliceV, sliceV.rowSl, sliceV.strSl, bounds, cutP, builtinV, lenV, maxL, maxV, appendV, St.elems, roomy, rowOf, rowS, isStr, esz, tdOf, convV, buildV, fillV, partsV, okParts, fillL, D.whole, D.demoteC, D.demote, demoteL, D.global, D.flat, D.leaf, D.cells, TI.agg, TD.rowish, callOpV, moveL, CC, keepB, St.borrowL, St.borrow, D.isLsl, adoptR, adoptC, adoptCL, adoptL, adopt, List.toArray, Array.toList, Nat.reduceEqDiff, Nat.reduceAdd, Nat.reduceSub, Nat.reduceMul, Nat.reduceLeDiff, Nat.reduceLT, reduceIte, reduceCtorEq, forall_const, imp_self, Int.reduceNeg, Int.reduceLT, Int.reduceLE, Int.reduceGT, Int.reduceGE, Int.reduceAdd, Int.reduceSub, Int.reduceMul, Int.reduceToNat, Int.reduceEq, ne_eq, eq_self]
theorem c18_8 (hC : Lib08A C) (k : Ky) (g : Nat) (hk : k.length ≤ 1000000) (hg : g ≤ 1000000) (B : Hp) : C 18 [.str k, .int .i64 (g : Nat)] B = some (.int .i64 (sizeC k g : Nat), B) := hC.f18 _ _ _ (run18 hC k g hk hg B)

set_option maxRecDepth 10000 in
theorem run19 (hC : Lib08A C) (k : Ky) (g : Nat) (hk : k.length ≤ 1000) (hg : g ≤ 1000000) (B : Hp) : runV T C fi19 [.str k, .int .i64 (g : Nat)] B = some (.int .i64 (sizeC k g : Nat), B) := by
  rw [e_run _ _ _ rfl]
  have c1 : ∀ B, C 52 [.vec 1 [] .none, .vec 1 (k.map byteD) .none] B = some (.vec 1 ((vputS k.length ++ k).map byteD) .fresh, B) := c52 hC.toLibPackB [] k (by decide) (by omega)
  have l1 := vputS_len10 (v := k.length) (by omega)
  have l2 := vputS_len10 (v := g) (by omega)
  have c2 := c40 hC.toLibVar (vputS k.length ++ k) g (by omega) (by rw [List.length_append]; omega)
  have hlen : (vputS k.length ++ k ++ vputS g).length = (vputS k.length).length + k.length + (vputS g).length := by simp only [List.length_append]
  have w2 : IntKind.u64.wrap (g : Int) = g := wrap_u64 (by omega) (by omega)
  have g0 : ¬ (g : Int) < 0 := by omega
  unfold sizeC
  rw [Int.toNat_natCast]
  generalize vputS k.length ++ k ++ vputS g = q at c2 hlen
  generalize vputS k.length ++ k = q1 at c1 c2
  generalize (vputS k.length).length = a at l1 hlen
  generalize (vputS g).length = b at l2 hlen
  have w5 : IntKind.i64.wrap (((a + k.length + b : Nat) : Int) + 2) = ((a + k.length + b + 2 : Nat) : Int) := by rw [wrapI (by omega) (by omega)]; omega
  have w6 : IntKind.i64.wrap (((a + k.length + b : Nat) : Int) + (g : Int)) = ((a + k.length + b + g : Nat) : Int) := by rw [wrapI (by omega) (by omega)]; omega
  by_cases h : (g : Int) > 64
  · simp only [h, if_true]
    simp only [fi19, Tryd.f19, an19, c1, c2, w2, g0, h, hlen, w5, T3, T5, T9, T23, T84, EL, e_finWf, e_finWt, e_finMN, e_finMX, retM, meltV, tupV, D.asBox, D.row1, D.freeR, D.freeO, List.replicate_succ, stepD, accs, accP, accW, simpleOp, isAl, isExt, flipD, D.fresh1, D.row, D.plain, D.plain.plainL, St.close, St.close1, St.borrow, retV, resV, resL, outCL, outC, outL, outD, wantedV, opV, An.mid, thawV, St.settle, D.plainU, prune, envOf, get, put, eval, evalT, nz, argsV, capsV, ofV, binV, binV.aggV, unV, intV, eqOp, isConst, natV, optV, loadV, loadC, storeV, setC, St.at_, partV, partTy, indexAddrV, fieldAddrV, sliceV, sliceV.rowSl, sliceV.strSl, bounds, cutP, builtinV, lenV, maxL, maxV, appendV, St.elems, roomy, rowOf, rowS, isStr, esz, tdOf, convV, buildV, fillV, partsV, okParts, fillL, D.whole, D.demoteC, D.demote, demoteL, D.global, D.flat, D.leaf, D.cells, TI.agg, TD.rowish, callOpV, moveL, CC, keepB, St.borrowL, St.borrow, D.isLsl, adoptR, adoptC, adoptCL, adoptL, adopt, List.toArray, Array.toList, Nat.reduceEqDiff, Nat.reduceAdd, Nat.reduceSub, Nat.reduceMul, Nat.reduceLeDiff, Nat.reduceLT, reduceIte, reduceCtorEq, forall_const, imp_self, Int.reduceNeg, Int.reduceLT, Int.reduceLE, Int.reduceGT, Int.reduceGE, Int.reduceAdd, Int.reduceSub, Int.reduceMul, Int.reduceToNat, Int.reduceEq, ne_eq, eq_self]
  · simp only [h, if_false]
    simp only [fi19, Tryd.f19, an19, c1, c2, w2, g0, h, hlen, w6, T3, T5, T9, T23, T84, EL, e_finWf, e_finWt, e_finMN, e_finMX, retM, meltV, tupV, D.asBox, D.row1, D.freeR, D.freeO, List.replicate_succ, stepD, accs, accP, accW, simpleOp, isAl, isExt, flipD, D.fresh1, D.row, D.plain, D.plain.plainL, St.close, St.close1, St.borrow, retV, resV, resL, outCL, outC, outL, outD, wantedV, opV, An.mid, thawV, St.settle, D.plainU, prune, envOf, get, put, eval, evalT, nz, argsV, capsV, ofV, binV, binV.aggV, unV, intV, eqOp, isConst, natV, optV, loadV, loadC, storeV, setC, St.at_, partV, partTy, indexAddrV, fieldAddrV, sliceV, sliceV.rowSl, sliceV.strSl, bounds, cutP, builtinV, lenV, maxL, maxV, appendV, St.elems, roomy, rowOf, rowS, isStr, esz, tdOf, convV, buildV, fillV, partsV, okParts, fillL, D.whole, D.demoteC, D.demote, demoteL, D.global, D.flat, D.leaf, D.cells, TI.agg, TD.rowish, callOpV, moveL, CC, keepB, St.borrowL, St.borrow, D.isLsl, adoptR, adoptC, adoptCL, adoptL, adopt, List.toArray, Array.toList, Nat.reduceEqDiff, Nat.reduceAdd, Nat.reduceSub, Nat.reduceMul, Nat.reduceLeDiff, Nat.reduceLT, reduceIte, reduceCtorEq, forall_const, imp_self, Int.reduceNeg, Int.reduceLT, Int.reduceLE, Int.reduceGT, Int.reduceGE, Int.reduceAdd, Int.reduceSub, Int.reduceMul, Int.reduceToNat, Int.reduceEq, ne_eq, eq_self]
theorem c19 (hC : Lib08A C) (k : Ky) (g : Nat) (hk : k.length ≤ 1000) (hg : g ≤ 1000000) (B : Hp) : C 19 [.str k, .int .i64 (g : Nat)] B = some (.int .i64 (sizeC k g : Nat), B) := hC.f19 _ _ _ (run19 hC k g hk hg B)

end Go.Proofs.YtfkhijjabkhmmaaDoor.V
