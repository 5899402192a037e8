/-
Layer 5: pages with a sum: what the program's functions compute.
-/
import Derived.Test.YtnhelkclkdfndaaDoorVC
namespace Go.Proofs.YtnhelkclkdfndaaDoor.V
open Go Go.RowKit
set_option linter.unusedSimpArgs false
set_option linter.unusedVariables false

/-! warren/sheet.Blank -/
def an139 : An := ⟨fun _ => .none, fun _ => 0, fun _ => false, fun _ => .none⟩
noncomputable def fi139 : FI := ⟨1, 6, Tryd.f139.body.getD .skip, Tryd.f139.results.toList, an139, false, false, false⟩
theorem ok139 : FnOk Tryd.prog 139 fi139 := ⟨⟨Tryd.f139, Tryd.func139, by kernel_rfl, rfl, rfl, rfl⟩, by decide, by kernel_rfl, fun h => by cases h⟩
/-! warren/sheet.Blank$1 -/
def an163 : An := ⟨fun _ => .none, fun _ => 0, fun _ => false, fun _ => .none⟩
noncomputable def fi163 : FI := ⟨1, 5, Tryd.f163.body.getD .skip, Tryd.f163.results.toList, an163, false, false, false⟩
theorem ok163 : FnOk Tryd.prog 163 fi163 := ⟨⟨Tryd.f163, Tryd.func163, by kernel_rfl, rfl, rfl, rfl⟩, by decide, by kernel_rfl, fun h => by cases h⟩
/-! warren/sheet.kinded -/
def an135 : An := ⟨fun _ => .none, fun _ => 0, fun _ => false, fun _ => .none⟩
noncomputable def fi135 : FI := ⟨1, 9, Tryd.f135.body.getD .skip, Tryd.f135.results.toList, an135, false, false, false⟩
theorem ok135 : FnOk Tryd.prog 135 fi135 := ⟨⟨Tryd.f135, Tryd.func135, by kernel_rfl, rfl, rfl, rfl⟩, by decide, by kernel_rfl, fun h => by cases h⟩
/-! warren/sheet.Seal -/
def an88 : An := ⟨fun _ => .none, fun _ => 0, fun _ => false, fun _ => .none⟩
noncomputable def fi88 : FI := ⟨2, 39, Tryd.f88.body.getD .skip, Tryd.f88.results.toList, an88, false, false, true⟩
theorem ok88 : FnOk Tryd.prog 88 fi88 := ⟨⟨Tryd.f88, Tryd.func88, by kernel_rfl, rfl, rfl, rfl⟩, by decide, by kernel_rfl, fun h => by cases h⟩
/-! warren/sheet.Open -/
def an91 : An := ⟨fun _ => .none, fun _ => 0, fun _ => false, fun _ => .none⟩
noncomputable def fi91 : FI := ⟨1, 58, Tryd.f91.body.getD .skip, Tryd.f91.results.toList, an91, false, false, false⟩
theorem ok91 : FnOk Tryd.prog 91 fi91 := ⟨⟨Tryd.f91, Tryd.func91, by kernel_rfl, rfl, rfl, rfl⟩, by decide, by kernel_rfl, fun h => by cases h⟩
/-! slices.ContainsFunc[[]byte,byte] -/
def an162 : An := ⟨fun _ => .none, fun _ => 0, fun _ => false, fun _ => .none⟩
noncomputable def fi162 : FI := ⟨2, 9, Tryd.f162.body.getD .skip, Tryd.f162.results.toList, an162, false, false, false⟩
theorem ok162 : FnOk Tryd.prog 162 fi162 := ⟨⟨Tryd.f162, Tryd.func162, by kernel_rfl, rfl, rfl, rfl⟩, by decide, by kernel_rfl, fun h => by cases h⟩
/-! slices.IndexFunc[[]byte,byte] -/
def an166 : An := ⟨fun | 2 => some [0, 1, 7, 8] | _ => .none, fun _ => 0, fun _ => false, fun _ => .none⟩
noncomputable def fi166 : FI := ⟨2, 19, Tryd.f166.body.getD .skip, Tryd.f166.results.toList, an166, false, false, false⟩
theorem ok166 : FnOk Tryd.prog 166 fi166 := ⟨⟨Tryd.f166, Tryd.func166, by kernel_rfl, rfl, rfl, rfl⟩, by decide, by kernel_rfl, fun h => by cases h⟩
noncomputable def lp166_0 : Code := subC [1, 0, 1, 0, 0] (Tryd.f166.body.getD .skip)   -- head 2 keep [0, 1, 7, 8]
/-! warren/warrenref05.Seal -/
def an90 : An := ⟨fun | 7 => some [6] | _ => .none, fun _ => 0, fun _ => false, fun _ => .none⟩
noncomputable def fi90 : FI := ⟨2, 55, Tryd.f90.body.getD .skip, Tryd.f90.results.toList, an90, false, false, false⟩
theorem ok90 : FnOk Tryd.prog 90 fi90 := ⟨⟨Tryd.f90, Tryd.func90, by kernel_rfl, rfl, rfl, rfl⟩, by decide, by kernel_rfl, fun h => by cases h⟩
noncomputable def lp90_0 : Code := subC [1, 1, 1, 1, 1, 0, 0, 0] (Tryd.f90.body.getD .skip)   -- head 7 keep [6]
/-! warren/warrenref05.Open -/
def an95 : An := ⟨fun | 9 => some [0, 5, 6] | _ => .none, fun _ => 0, fun _ => false, fun _ => .none⟩
noncomputable def fi95 : FI := ⟨1, 61, Tryd.f95.body.getD .skip, Tryd.f95.results.toList, an95, false, false, false⟩
theorem ok95 : FnOk Tryd.prog 95 fi95 := ⟨⟨Tryd.f95, Tryd.func95, by kernel_rfl, rfl, rfl, rfl⟩, by decide, by kernel_rfl, fun h => by cases h⟩
noncomputable def lp95_0 : Code := subC [1, 1, 1, 1, 1, 0, 1, 0, 0] (Tryd.f95.body.getD .skip)   -- head 9 keep [0, 5, 6]
structure Lib05 (C : Callees) : Prop extends LibCrc C where
  f139 : Has T C 139 fi139
  f163 : Has T C 163 fi163
  f135 : Has T C 135 fi135
  f88 : Has T C 88 fi88
  f91 : Has T C 91 fi91
  f162 : Has T C 162 fi162
  f166 : Has T C 166 fi166
  f90 : Has T C 90 fi90
  f95 : Has T C 95 fi95

variable {C : Callees}

theorem nat0 (a : Nat) : (0 : Int) ≤ (a : Int) := Int.natCast_nonneg a
def blankS (l : List UInt8) : Bool := l.all (· == 0)
def kindS (k : Nat) : Bool := decide (1 ≤ k) && decide (k ≤ 5)

set_option maxRecDepth 10000 in
theorem run135 (C : Callees) (k : Nat) (B : Hp) : runV T C fi135 [.int .u8 k] B = some (.bool (kindS k), B) := by
  rw [e_run _ _ _ rfl]
  unfold kindS
  have e1 : decide ((k : Int) ≥ 1) = decide (1 ≤ k) := decide_eq_decide.2 (by omega)
  have e2 : decide ((k : Int) ≤ 5) = decide (k ≤ 5) := decide_eq_decide.2 (by omega)
  cases h1 : decide (1 ≤ k) <;> rw [h1] at e1 <;> cases h2 : decide (k ≤ 5) <;> rw [h2] at e2 <;>
  simp only [fi135, Tryd.f135, an135, e1, e2, T5, EL, e_finWf, e_finWt, e_finMN, e_finMX, retM, meltV, tupV, D.asBox, D.row1, D.freeR, D.freeO, List.replicate_succ, stepD, accs, accP, accW, simpleOp, isAl, isExt, flipD, D.fresh1, D.row, D.plain, D.plain.plainL, St.close, St.close1, St.borrow, retV, resV, resL, outCL, outC, outL, outD, wantedV, opV, An.mid, thawV, St.settle, D.plainU, prune, envOf, get, put, eval, evalT, nz, argsV, capsV, ofV, binV, binV.aggV, unV, intV, eqOp, isConst, natV, optV, loadV, loadC, storeV, setC, St.at_, partV, partTy, indexAddrV, fieldAddrV, sliceV, sliceV.rowSl, sliceV.strSl, bounds, cutP, builtinV, lenV, maxL, maxV, appendV, St.elems, roomy, rowOf, rowS, isStr, esz, tdOf, convV, buildV, fillV, partsV, okParts, fillL, D.whole, D.demoteC, D.demote, demoteL, D.global, D.flat, D.leaf, D.cells, TI.agg, TD.rowish, callOpV, moveL, CC, keepB, St.borrowL, St.borrow, D.isLsl, adoptR, adoptC, adoptCL, adoptL, adopt, List.toArray, Array.toList, Nat.reduceEqDiff, Nat.reduceAdd, Nat.reduceSub, Nat.reduceMul, Nat.reduceLeDiff, Nat.reduceLT, reduceIte, reduceCtorEq, forall_const, imp_self, Int.reduceNeg, Int.reduceLT, Int.reduceLE, Int.reduceGT, Int.reduceGE, Int.reduceAdd, Int.reduceSub, Int.reduceMul, Int.reduceToNat, Int.reduceEq, ne_eq, eq_self]
theorem c135 (hC : Lib05 C) (k : Nat) (B : Hp) : C 135 [.int .u8 k] B = some (.bool (kindS k), B) := hC.f135 _ _ _ (run135 C k B)

set_option maxRecDepth 10000 in
theorem run163 (C : Callees) (c : UInt8) (B : Hp) : runV T C fi163 [.int .u8 c.toNat] B = some (.bool (!(c == 0)), B) := by
  rw [e_run _ _ _ rfl]
  have e : decide (((c.toNat : Nat) : Int) = 0) = (c == 0) := by
    rw [Bool.eq_iff_iff, decide_eq_true_eq, beq_iff_eq]
    constructor
    · intro h; exact UInt8.toNat_inj.1 (by simpa using h)
    · intro h; subst h; rfl
  simp only [fi163, Tryd.f163, an163, e, T5, EL, e_finWf, e_finWt, e_finMN, e_finMX, retM, meltV, tupV, D.asBox, D.row1, D.freeR, D.freeO, List.replicate_succ, stepD, accs, accP, accW, simpleOp, isAl, isExt, flipD, D.fresh1, D.row, D.plain, D.plain.plainL, St.close, St.close1, St.borrow, retV, resV, resL, outCL, outC, outL, outD, wantedV, opV, An.mid, thawV, St.settle, D.plainU, prune, envOf, get, put, eval, evalT, nz, argsV, capsV, ofV, binV, binV.aggV, unV, intV, eqOp, isConst, natV, optV, loadV, loadC, storeV, setC, St.at_, partV, partTy, indexAddrV, fieldAddrV, sliceV, sliceV.rowSl, sliceV.strSl, bounds, cutP, builtinV, lenV, maxL, maxV, appendV, St.elems, roomy, rowOf, rowS, isStr, esz, tdOf, convV, buildV, fillV, partsV, okParts, fillL, D.whole, D.demoteC, D.demote, demoteL, D.global, D.flat, D.leaf, D.cells, TI.agg, TD.rowish, callOpV, moveL, CC, keepB, St.borrowL, St.borrow, D.isLsl, adoptR, adoptC, adoptCL, adoptL, adopt, List.toArray, Array.toList, Nat.reduceEqDiff, Nat.reduceAdd, Nat.reduceSub, Nat.reduceMul, Nat.reduceLeDiff, Nat.reduceLT, reduceIte, reduceCtorEq, forall_const, imp_self, Int.reduceNeg, Int.reduceLT, Int.reduceLE, Int.reduceGT, Int.reduceGE, Int.reduceAdd, Int.reduceSub, Int.reduceMul, Int.reduceToNat, Int.reduceEq, ne_eq, eq_self]
theorem c163 (hC : Lib05 C) (c : UInt8) (B : Hp) : C 163 [.int .u8 c.toNat] B = some (.bool (!(c == 0)), B) := hC.f163 _ _ _ (run163 C c B)

def st166 (B : Hp) (l : List UInt8) (k : Nat) : St := ⟨[(0, byV l .none), (1, .fn 163 []), (7, .int .i64 l.length), (8, .int .i64 k)], [], [], B⟩
set_option maxRecDepth 10000 in
theorem loop166 (hC : Lib05 C) (B : Hp) (l : List UInt8) (hl : l.length ≤ 1000000) (st : St) (hst : an166.at_ (some 2) st = st166 B l 0) :
    ∃ x st', loopC T an166 C lp166_0 st = some (x, st') ∧ ∃ ρ, st' = ⟨ρ, [], [], B⟩ ∧ ((x = .exit 0 ∧ blankS l = true) ∨ (x = .ret ∧ blankS l = false ∧ ∃ k : Nat, get ρ 4 = .int .i64 k)) := by
  refine loop_rule (st166 B l) (fun k => k ≤ l.length ∧ blankS (l.take k) = true) (fun k => l.length - k) _ ?_ 0 st hst ⟨Nat.zero_le _, rfl⟩
  rintro k ⟨hk, hI⟩
  rcases Nat.lt_or_ge k l.length with h | h
  · have hc := List.getElem?_eq_getElem h
    generalize l[k] = c at hc
    have g0 : (k : Int) < l.length := by omega
    have g1 : (0 : Int) ≤ k := by omega
    have g2 : (l.map byteD)[k]? = some (.int .u8 c.toNat) := by rw [List.getElem?_map, hc]; rfl
    have w1 : IntKind.i64.wrap ((k : Int) + 1) = ((k + 1 : Nat) : Int) := by rw [wrapI (by omega) (by omega)]; rfl
    have c1 := c163 hC c
    cases e : c == 0 <;> rw [e] at c1
    · right
      have hb : blankS l = false := by
        cases hb : blankS l with
        | false => rfl
        | true =>
          have := List.all_eq_true.1 hb c (List.mem_of_getElem? hc)
          rw [e] at this; cases this
      simp only [st166, lp166_0, subC, atC, Tryd.f166, an166, g0, g1, g2, w1, c1, AL, T3, T5, T68, EL, e_finWf, e_finWt, e_finMN, e_finMX, retM, meltV, tupV, D.asBox, D.row1, D.freeR, D.freeO, List.replicate_succ, stepD, accs, accP, accW, simpleOp, isAl, isExt, flipD, D.fresh1, D.row, D.plain, D.plain.plainL, St.close, St.close1, St.borrow, retV, resV, resL, outCL, outC, outL, outD, wantedV, opV, An.mid, thawV, St.settle, D.plainU, prune, envOf, get, put, eval, evalT, nz, argsV, capsV, ofV, binV, binV.aggV, unV, intV, eqOp, isConst, natV, optV, loadV, loadC, storeV, setC, St.at_, partV, partTy, indexAddrV, fieldAddrV, sliceV, sliceV.rowSl, sliceV.strSl, bounds, cutP, builtinV, lenV, maxL, maxV, appendV, St.elems, roomy, rowOf, rowS, isStr, esz, tdOf, convV, buildV, fillV, partsV, okParts, fillL, D.whole, D.demoteC, D.demote, demoteL, D.global, D.flat, D.leaf, D.cells, TI.agg, TD.rowish, callOpV, moveL, CC, keepB, St.borrowL, St.borrow, D.isLsl, adoptR, adoptC, adoptCL, adoptL, adopt, List.toArray, Array.toList, Nat.reduceEqDiff, Nat.reduceAdd, Nat.reduceSub, Nat.reduceMul, Nat.reduceLeDiff, Nat.reduceLT, reduceIte, reduceCtorEq, forall_const, imp_self, Int.reduceNeg, Int.reduceLT, Int.reduceLE, Int.reduceGT, Int.reduceGE, Int.reduceAdd, Int.reduceSub, Int.reduceMul, Int.reduceToNat, Int.reduceEq, ne_eq, eq_self]
      exact ⟨_, _, rfl, by simp, _, rfl, .inr ⟨rfl, hb, k, rfl⟩⟩
    · left
      refine ⟨k + 1, ?_, ⟨by omega, ?_⟩, by omega⟩
      · simp only [st166, lp166_0, subC, atC, Tryd.f166, an166, g0, g1, g2, w1, c1, AL, T3, T5, T68, EL, e_finWf, e_finWt, e_finMN, e_finMX, retM, meltV, tupV, D.asBox, D.row1, D.freeR, D.freeO, List.replicate_succ, stepD, accs, accP, accW, simpleOp, isAl, isExt, flipD, D.fresh1, D.row, D.plain, D.plain.plainL, St.close, St.close1, St.borrow, retV, resV, resL, outCL, outC, outL, outD, wantedV, opV, An.mid, thawV, St.settle, D.plainU, prune, envOf, get, put, eval, evalT, nz, argsV, capsV, ofV, binV, binV.aggV, unV, intV, eqOp, isConst, natV, optV, loadV, loadC, storeV, setC, St.at_, partV, partTy, indexAddrV, fieldAddrV, sliceV, sliceV.rowSl, sliceV.strSl, bounds, cutP, builtinV, lenV, maxL, maxV, appendV, St.elems, roomy, rowOf, rowS, isStr, esz, tdOf, convV, buildV, fillV, partsV, okParts, fillL, D.whole, D.demoteC, D.demote, demoteL, D.global, D.flat, D.leaf, D.cells, TI.agg, TD.rowish, callOpV, moveL, CC, keepB, St.borrowL, St.borrow, D.isLsl, adoptR, adoptC, adoptCL, adoptL, adopt, List.toArray, Array.toList, Nat.reduceEqDiff, Nat.reduceAdd, Nat.reduceSub, Nat.reduceMul, Nat.reduceLeDiff, Nat.reduceLT, reduceIte, reduceCtorEq, forall_const, imp_self, Int.reduceNeg, Int.reduceLT, Int.reduceLE, Int.reduceGT, Int.reduceGE, Int.reduceAdd, Int.reduceSub, Int.reduceMul, Int.reduceToNat, Int.reduceEq, ne_eq, eq_self]
        exact ⟨_, rfl, rfl⟩
      · unfold blankS at hI ⊢
        rw [List.take_add_one, hc, List.all_append, hI]
        simp [e]
  · right
    obtain rfl : k = l.length := by omega
    have g0 : ¬ ((l.length : Nat) : Int) < l.length := by omega
    rw [List.take_length] at hI
    simp only [st166, lp166_0, subC, atC, Tryd.f166, an166, g0, T3, T5, T68, EL, e_finWf, e_finWt, e_finMN, e_finMX, retM, meltV, tupV, D.asBox, D.row1, D.freeR, D.freeO, List.replicate_succ, stepD, accs, accP, accW, simpleOp, isAl, isExt, flipD, D.fresh1, D.row, D.plain, D.plain.plainL, St.close, St.close1, St.borrow, retV, resV, resL, outCL, outC, outL, outD, wantedV, opV, An.mid, thawV, St.settle, D.plainU, prune, envOf, get, put, eval, evalT, nz, argsV, capsV, ofV, binV, binV.aggV, unV, intV, eqOp, isConst, natV, optV, loadV, loadC, storeV, setC, St.at_, partV, partTy, indexAddrV, fieldAddrV, sliceV, sliceV.rowSl, sliceV.strSl, bounds, cutP, builtinV, lenV, maxL, maxV, appendV, St.elems, roomy, rowOf, rowS, isStr, esz, tdOf, convV, buildV, fillV, partsV, okParts, fillL, D.whole, D.demoteC, D.demote, demoteL, D.global, D.flat, D.leaf, D.cells, TI.agg, TD.rowish, callOpV, moveL, CC, keepB, St.borrowL, St.borrow, D.isLsl, adoptR, adoptC, adoptCL, adoptL, adopt, List.toArray, Array.toList, Nat.reduceEqDiff, Nat.reduceAdd, Nat.reduceSub, Nat.reduceMul, Nat.reduceLeDiff, Nat.reduceLT, reduceIte, reduceCtorEq, forall_const, imp_self, Int.reduceNeg, Int.reduceLT, Int.reduceLE, Int.reduceGT, Int.reduceGE, Int.reduceAdd, Int.reduceSub, Int.reduceMul, Int.reduceToNat, Int.reduceEq, ne_eq, eq_self]
    exact ⟨_, _, rfl, by simp, _, rfl, .inl ⟨rfl, hI⟩⟩

set_option maxRecDepth 10000 in
theorem run166 (hC : Lib05 C) (l : List UInt8) (hl : l.length ≤ 1000000) (B : Hp) : ∃ n : Int, decide (n ≥ 0) = !blankS l ∧ runV T C fi166 [byV l .none, .fn 163 []] B = some (.int .i64 n, B) := by
  simp only [e_run _ _ _ (show [byV l .none, .fn 163 []].length = fi166.np from rfl)]
  simp only [fi166, Tryd.f166, an166, T3, T5, T68, EL, e_finWf, e_finWt, e_finMN, e_finMX, retM, meltV, tupV, D.asBox, D.row1, D.freeR, D.freeO, List.replicate_succ, stepD, accs, accP, accW, simpleOp, isAl, isExt, flipD, D.fresh1, D.row, D.plain, D.plain.plainL, St.close, St.close1, St.borrow, retV, resV, resL, outCL, outC, outL, outD, wantedV, opV, An.mid, thawV, St.settle, D.plainU, prune, envOf, get, put, eval, evalT, nz, argsV, capsV, ofV, binV, binV.aggV, unV, intV, eqOp, isConst, natV, optV, loadV, loadC, storeV, setC, St.at_, partV, partTy, indexAddrV, fieldAddrV, sliceV, sliceV.rowSl, sliceV.strSl, bounds, cutP, builtinV, lenV, maxL, maxV, appendV, St.elems, roomy, rowOf, rowS, isStr, esz, tdOf, convV, buildV, fillV, partsV, okParts, fillL, D.whole, D.demoteC, D.demote, demoteL, D.global, D.flat, D.leaf, D.cells, TI.agg, TD.rowish, callOpV, moveL, CC, keepB, St.borrowL, St.borrow, D.isLsl, adoptR, adoptC, adoptCL, adoptL, adopt, List.toArray, Array.toList, Nat.reduceEqDiff, Nat.reduceAdd, Nat.reduceSub, Nat.reduceMul, Nat.reduceLeDiff, Nat.reduceLT, reduceIte, reduceCtorEq, forall_const, imp_self, Int.reduceNeg, Int.reduceLT, Int.reduceLE, Int.reduceGT, Int.reduceGE, Int.reduceAdd, Int.reduceSub, Int.reduceMul, Int.reduceToNat, Int.reduceEq, ne_eq, eq_self]
  refine in_loopP (fun r => ∃ n : Int, decide (n ≥ 0) = !blankS l ∧ fin T [ResultVar.tmp 4] false B r = some (.int .i64 n, B)) (c' := lp166_0) (loop166 hC B l hl _ ?h) rfl ?q
  case h =>
    simp only [an166, ren_map, toks_map, boxes_map, st166, An.at_, tidyV, tidyW, tidyB, tidyT, sift, envBoxes, envToks, conToks, D.toks, D.tok1, toksL, D.boxes, D.box1, boxesL, memN, posN, renE, D.ren, D.ren1, renL, renB, St.content, St.boxOk, St.tokOk, trues, T3, T5, T68, EL, e_finWf, e_finWt, e_finMN, e_finMX, retM, meltV, tupV, D.asBox, D.row1, D.freeR, D.freeO, List.replicate_succ, stepD, accs, accP, accW, simpleOp, isAl, isExt, flipD, D.fresh1, D.row, D.plain, D.plain.plainL, St.close, St.close1, St.borrow, retV, resV, resL, outCL, outC, outL, outD, wantedV, opV, An.mid, thawV, St.settle, D.plainU, prune, envOf, get, put, eval, evalT, nz, argsV, capsV, ofV, binV, binV.aggV, unV, intV, eqOp, isConst, natV, optV, loadV, loadC, storeV, setC, St.at_, partV, partTy, indexAddrV, fieldAddrV, sliceV, sliceV.rowSl, sliceV.strSl, bounds, cutP, builtinV, lenV, maxL, maxV, appendV, St.elems, roomy, rowOf, rowS, isStr, esz, tdOf, convV, buildV, fillV, partsV, okParts, fillL, D.whole, D.demoteC, D.demote, demoteL, D.global, D.flat, D.leaf, D.cells, TI.agg, TD.rowish, callOpV, moveL, CC, keepB, St.borrowL, St.borrow, D.isLsl, adoptR, adoptC, adoptCL, adoptL, adopt, List.toArray, Array.toList, Nat.reduceEqDiff, Nat.reduceAdd, Nat.reduceSub, Nat.reduceMul, Nat.reduceLeDiff, Nat.reduceLT, reduceIte, reduceCtorEq, forall_const, imp_self, Int.reduceNeg, Int.reduceLT, Int.reduceLE, Int.reduceGT, Int.reduceGE, Int.reduceAdd, Int.reduceSub, Int.reduceMul, Int.reduceToNat, Int.reduceEq, ne_eq, eq_self]
    rfl
  rintro x st' ⟨ρ, rfl, ⟨rfl, hb⟩ | ⟨rfl, hb, k, hk⟩⟩
  · refine ⟨-1, by rw [hb]; rfl, ?_⟩
    simp only [T3, T5, T68, EL, e_finWf, e_finWt, e_finMN, e_finMX, retM, meltV, tupV, D.asBox, D.row1, D.freeR, D.freeO, List.replicate_succ, stepD, accs, accP, accW, simpleOp, isAl, isExt, flipD, D.fresh1, D.row, D.plain, D.plain.plainL, St.close, St.close1, St.borrow, retV, resV, resL, outCL, outC, outL, outD, wantedV, opV, An.mid, thawV, St.settle, D.plainU, prune, envOf, get, put, eval, evalT, nz, argsV, capsV, ofV, binV, binV.aggV, unV, intV, eqOp, isConst, natV, optV, loadV, loadC, storeV, setC, St.at_, partV, partTy, indexAddrV, fieldAddrV, sliceV, sliceV.rowSl, sliceV.strSl, bounds, cutP, builtinV, lenV, maxL, maxV, appendV, St.elems, roomy, rowOf, rowS, isStr, esz, tdOf, convV, buildV, fillV, partsV, okParts, fillL, D.whole, D.demoteC, D.demote, demoteL, D.global, D.flat, D.leaf, D.cells, TI.agg, TD.rowish, callOpV, moveL, CC, keepB, St.borrowL, St.borrow, D.isLsl, adoptR, adoptC, adoptCL, adoptL, adopt, List.toArray, Array.toList, Nat.reduceEqDiff, Nat.reduceAdd, Nat.reduceSub, Nat.reduceMul, Nat.reduceLeDiff, Nat.reduceLT, reduceIte, reduceCtorEq, forall_const, imp_self, Int.reduceNeg, Int.reduceLT, Int.reduceLE, Int.reduceGT, Int.reduceGE, Int.reduceAdd, Int.reduceSub, Int.reduceMul, Int.reduceToNat, Int.reduceEq, ne_eq, eq_self]
  · refine ⟨k, by rw [hb]; simp, ?_⟩
    simp only [hk, T3, T5, T68, EL, e_finWf, e_finWt, e_finMN, e_finMX, retM, meltV, tupV, D.asBox, D.row1, D.freeR, D.freeO, List.replicate_succ, stepD, accs, accP, accW, simpleOp, isAl, isExt, flipD, D.fresh1, D.row, D.plain, D.plain.plainL, St.close, St.close1, St.borrow, retV, resV, resL, outCL, outC, outL, outD, wantedV, opV, An.mid, thawV, St.settle, D.plainU, prune, envOf, get, put, eval, evalT, nz, argsV, capsV, ofV, binV, binV.aggV, unV, intV, eqOp, isConst, natV, optV, loadV, loadC, storeV, setC, St.at_, partV, partTy, indexAddrV, fieldAddrV, sliceV, sliceV.rowSl, sliceV.strSl, bounds, cutP, builtinV, lenV, maxL, maxV, appendV, St.elems, roomy, rowOf, rowS, isStr, esz, tdOf, convV, buildV, fillV, partsV, okParts, fillL, D.whole, D.demoteC, D.demote, demoteL, D.global, D.flat, D.leaf, D.cells, TI.agg, TD.rowish, callOpV, moveL, CC, keepB, St.borrowL, St.borrow, D.isLsl, adoptR, adoptC, adoptCL, adoptL, adopt, List.toArray, Array.toList, Nat.reduceEqDiff, Nat.reduceAdd, Nat.reduceSub, Nat.reduceMul, Nat.reduceLeDiff, Nat.reduceLT, reduceIte, reduceCtorEq, forall_const, imp_self, Int.reduceNeg, Int.reduceLT, Int.reduceLE, Int.reduceGT, Int.reduceGE, Int.reduceAdd, Int.reduceSub, Int.reduceMul, Int.reduceToNat, Int.reduceEq, ne_eq, eq_self]

set_option maxRecDepth 10000 in
theorem run162 (hC : Lib05 C) (l : List UInt8) (hl : l.length ≤ 1000000) (B : Hp) : runV T C fi162 [byV l .none, .fn 163 []] B = some (.bool (!blankS l), B) := by
  rw [e_run _ _ _ rfl]
  obtain ⟨n, h1, h2⟩ := run166 hC l hl B
  have c1 := hC.f166 _ _ _ h2
  simp only [fi162, Tryd.f162, an162, c1, h1, T3, EL, e_finWf, e_finWt, e_finMN, e_finMX, retM, meltV, tupV, D.asBox, D.row1, D.freeR, D.freeO, List.replicate_succ, stepD, accs, accP, accW, simpleOp, isAl, isExt, flipD, D.fresh1, D.row, D.plain, D.plain.plainL, St.close, St.close1, St.borrow, retV, resV, resL, outCL, outC, outL, outD, wantedV, opV, An.mid, thawV, St.settle, D.plainU, prune, envOf, get, put, eval, evalT, nz, argsV, capsV, ofV, binV, binV.aggV, unV, intV, eqOp, isConst, natV, optV, loadV, loadC, storeV, setC, St.at_, partV, partTy, indexAddrV, fieldAddrV, sliceV, sliceV.rowSl, sliceV.strSl, bounds, cutP, builtinV, lenV, maxL, maxV, appendV, St.elems, roomy, rowOf, rowS, isStr, esz, tdOf, convV, buildV, fillV, partsV, okParts, fillL, D.whole, D.demoteC, D.demote, demoteL, D.global, D.flat, D.leaf, D.cells, TI.agg, TD.rowish, callOpV, moveL, CC, keepB, St.borrowL, St.borrow, D.isLsl, adoptR, adoptC, adoptCL, adoptL, adopt, List.toArray, Array.toList, Nat.reduceEqDiff, Nat.reduceAdd, Nat.reduceSub, Nat.reduceMul, Nat.reduceLeDiff, Nat.reduceLT, reduceIte, reduceCtorEq, forall_const, imp_self, Int.reduceNeg, Int.reduceLT, Int.reduceLE, Int.reduceGT, Int.reduceGE, Int.reduceAdd, Int.reduceSub, Int.reduceMul, Int.reduceToNat, Int.reduceEq, ne_eq, eq_self]
theorem c162 (hC : Lib05 C) (l : List UInt8) (hl : l.length ≤ 1000000) (B : Hp) : C 162 [.vec 1 (l.map byteD) .none, .fn 163 []] B = some (.bool (!blankS l), B) := hC.f162 _ _ _ (run162 hC l hl B)
set_option maxRecDepth 10000 in
theorem run139 (hC : Lib05 C) (l : List UInt8) (hl : l.length ≤ 1000000) (B : Hp) : runV T C fi139 [byV l .none] B = some (.bool (blankS l), B) := by
  rw [e_run _ _ _ rfl]
  have c1 := c162 hC l hl
  cases e : blankS l <;> rw [e] at c1 <;>
  simp only [fi139, Tryd.f139, an139, c1, T4, EL, e_finWf, e_finWt, e_finMN, e_finMX, retM, meltV, tupV, D.asBox, D.row1, D.freeR, D.freeO, List.replicate_succ, stepD, accs, accP, accW, simpleOp, isAl, isExt, flipD, D.fresh1, D.row, D.plain, D.plain.plainL, St.close, St.close1, St.borrow, retV, resV, resL, outCL, outC, outL, outD, wantedV, opV, An.mid, thawV, St.settle, D.plainU, prune, envOf, get, put, eval, evalT, nz, argsV, capsV, ofV, binV, binV.aggV, unV, intV, eqOp, isConst, natV, optV, loadV, loadC, storeV, setC, St.at_, partV, partTy, indexAddrV, fieldAddrV, sliceV, sliceV.rowSl, sliceV.strSl, bounds, cutP, builtinV, lenV, maxL, maxV, appendV, St.elems, roomy, rowOf, rowS, isStr, esz, tdOf, convV, buildV, fillV, partsV, okParts, fillL, D.whole, D.demoteC, D.demote, demoteL, D.global, D.flat, D.leaf, D.cells, TI.agg, TD.rowish, callOpV, moveL, CC, keepB, St.borrowL, St.borrow, D.isLsl, adoptR, adoptC, adoptCL, adoptL, adopt, List.toArray, Array.toList, Nat.reduceEqDiff, Nat.reduceAdd, Nat.reduceSub, Nat.reduceMul, Nat.reduceLeDiff, Nat.reduceLT, reduceIte, reduceCtorEq, forall_const, imp_self, Int.reduceNeg, Int.reduceLT, Int.reduceLE, Int.reduceGT, Int.reduceGE, Int.reduceAdd, Int.reduceSub, Int.reduceMul, Int.reduceToNat, Int.reduceEq, ne_eq, eq_self]
theorem c139 (hC : Lib05 C) (l : List UInt8) (hl : l.length ≤ 1000000) (B : Hp) : C 139 [.vec 1 (l.map byteD) .none] B = some (.bool (blankS l), B) := hC.f139 _ _ _ (run139 hC l hl B)

/-! ### Room -/
end Go.Proofs.YtnhelkclkdfndaaDoor.V
