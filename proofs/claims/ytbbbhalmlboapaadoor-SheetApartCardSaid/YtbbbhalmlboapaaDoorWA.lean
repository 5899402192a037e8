/-
Layer 5: pages with a sum: what the program's functions compute.
-/
import Derived.Test.YtbbbhalmlboapaaDoorVC
namespace Go.Proofs.YtbbbhalmlboapaaDoor.V
open Go Go.RowKit
set_option linter.unusedSimpArgs false
set_option linter.unusedVariables false

/-! warren/sheet.Blank -/
def an60 : An := ⟨fun _ => .none, fun _ => 0, fun _ => false, fun _ => .none⟩
noncomputable def fi60 : FI := ⟨1, 6, Tryd.f60.body.getD .skip, Tryd.f60.results.toList, an60, false, false, false⟩
theorem ok60 : FnOk Tryd.prog 60 fi60 := ⟨⟨Tryd.f60, Tryd.func60, by kernel_rfl, rfl, rfl, rfl⟩, by decide, by kernel_rfl, fun h => by cases h⟩
/-! warren/sheet.Blank$1 -/
def an81 : An := ⟨fun _ => .none, fun _ => 0, fun _ => false, fun _ => .none⟩
noncomputable def fi81 : FI := ⟨1, 5, Tryd.f81.body.getD .skip, Tryd.f81.results.toList, an81, false, false, false⟩
theorem ok81 : FnOk Tryd.prog 81 fi81 := ⟨⟨Tryd.f81, Tryd.func81, by kernel_rfl, rfl, rfl, rfl⟩, by decide, by kernel_rfl, fun h => by cases h⟩
/-! warren/sheet.kinded -/
def an73 : An := ⟨fun _ => .none, fun _ => 0, fun _ => false, fun _ => .none⟩
noncomputable def fi73 : FI := ⟨1, 9, Tryd.f73.body.getD .skip, Tryd.f73.results.toList, an73, false, false, false⟩
theorem ok73 : FnOk Tryd.prog 73 fi73 := ⟨⟨Tryd.f73, Tryd.func73, by kernel_rfl, rfl, rfl, rfl⟩, by decide, by kernel_rfl, fun h => by cases h⟩
/-! warren/sheet.Room -/
def an58 : An := ⟨fun _ => .none, fun _ => 0, fun _ => false, fun _ => .none⟩
noncomputable def fi58 : FI := ⟨1, 13, Tryd.f58.body.getD .skip, Tryd.f58.results.toList, an58, false, false, false⟩
theorem ok58 : FnOk Tryd.prog 58 fi58 := ⟨⟨Tryd.f58, Tryd.func58, by kernel_rfl, rfl, rfl, rfl⟩, by decide, by kernel_rfl, fun h => by cases h⟩
/-! warren/sheet.Seal -/
def an54 : An := ⟨fun _ => .none, fun _ => 0, fun _ => false, fun _ => .none⟩
noncomputable def fi54 : FI := ⟨2, 39, Tryd.f54.body.getD .skip, Tryd.f54.results.toList, an54, false, false, true⟩
theorem ok54 : FnOk Tryd.prog 54 fi54 := ⟨⟨Tryd.f54, Tryd.func54, by kernel_rfl, rfl, rfl, rfl⟩, by decide, by kernel_rfl, fun h => by cases h⟩
/-! warren/sheet.Open -/
def an56 : An := ⟨fun _ => .none, fun _ => 0, fun _ => false, fun _ => .none⟩
noncomputable def fi56 : FI := ⟨1, 58, Tryd.f56.body.getD .skip, Tryd.f56.results.toList, an56, false, false, false⟩
theorem ok56 : FnOk Tryd.prog 56 fi56 := ⟨⟨Tryd.f56, Tryd.func56, by kernel_rfl, rfl, rfl, rfl⟩, by decide, by kernel_rfl, fun h => by cases h⟩
/-! slices.ContainsFunc[[]byte,byte] -/
def an80 : An := ⟨fun _ => .none, fun _ => 0, fun _ => false, fun _ => .none⟩
noncomputable def fi80 : FI := ⟨2, 9, Tryd.f80.body.getD .skip, Tryd.f80.results.toList, an80, false, false, false⟩
theorem ok80 : FnOk Tryd.prog 80 fi80 := ⟨⟨Tryd.f80, Tryd.func80, by kernel_rfl, rfl, rfl, rfl⟩, by decide, by kernel_rfl, fun h => by cases h⟩
/-! slices.IndexFunc[[]byte,byte] -/
def an93 : An := ⟨fun | 2 => some [0, 1, 7, 8] | _ => .none, fun _ => 0, fun _ => false, fun _ => .none⟩
noncomputable def fi93 : FI := ⟨2, 19, Tryd.f93.body.getD .skip, Tryd.f93.results.toList, an93, false, false, false⟩
theorem ok93 : FnOk Tryd.prog 93 fi93 := ⟨⟨Tryd.f93, Tryd.func93, by kernel_rfl, rfl, rfl, rfl⟩, by decide, by kernel_rfl, fun h => by cases h⟩
noncomputable def lp93_0 : Code := subC [1, 0, 1, 0, 0] (Tryd.f93.body.getD .skip)   -- head 2 keep [0, 1, 7, 8]
/-! warren/warrenref05.Seal -/
def an55 : An := ⟨fun | 7 => some [6] | _ => .none, fun _ => 0, fun _ => false, fun _ => .none⟩
noncomputable def fi55 : FI := ⟨2, 55, Tryd.f55.body.getD .skip, Tryd.f55.results.toList, an55, false, false, false⟩
theorem ok55 : FnOk Tryd.prog 55 fi55 := ⟨⟨Tryd.f55, Tryd.func55, by kernel_rfl, rfl, rfl, rfl⟩, by decide, by kernel_rfl, fun h => by cases h⟩
noncomputable def lp55_0 : Code := subC [1, 1, 1, 1, 1, 0, 0, 0] (Tryd.f55.body.getD .skip)   -- head 7 keep [6]
/-! warren/warrenref05.Open -/
def an57 : An := ⟨fun | 9 => some [0, 5, 6] | _ => .none, fun _ => 0, fun _ => false, fun _ => .none⟩
noncomputable def fi57 : FI := ⟨1, 61, Tryd.f57.body.getD .skip, Tryd.f57.results.toList, an57, false, false, false⟩
theorem ok57 : FnOk Tryd.prog 57 fi57 := ⟨⟨Tryd.f57, Tryd.func57, by kernel_rfl, rfl, rfl, rfl⟩, by decide, by kernel_rfl, fun h => by cases h⟩
noncomputable def lp57_0 : Code := subC [1, 1, 1, 1, 1, 0, 1, 0, 0] (Tryd.f57.body.getD .skip)   -- head 9 keep [0, 5, 6]
structure Lib05 (C : Callees) : Prop extends LibCrc C where
  f60 : Has T C 60 fi60
  f81 : Has T C 81 fi81
  f73 : Has T C 73 fi73
  f58 : Has T C 58 fi58
  f54 : Has T C 54 fi54
  f56 : Has T C 56 fi56
  f80 : Has T C 80 fi80
  f93 : Has T C 93 fi93
  f55 : Has T C 55 fi55
  f57 : Has T C 57 fi57

variable {C : Callees}

theorem nat0 (a : Nat) : (0 : Int) ≤ (a : Int) := Int.natCast_nonneg a
def blankS (l : List UInt8) : Bool := l.all (· == 0)
def kindS (k : Nat) : Bool := decide (1 ≤ k) && decide (k ≤ 5)

set_option maxRecDepth 10000 in
theorem run73 (C : Callees) (k : Nat) (B : Hp) : runV T C fi73 [.int .u8 k] B = some (.bool (kindS k), B) := by
  rw [e_run _ _ _ rfl]
  unfold kindS
  have e1 : decide ((k : Int) ≥ 1) = decide (1 ≤ k) := decide_eq_decide.2 (by omega)
  have e2 : decide ((k : Int) ≤ 5) = decide (k ≤ 5) := decide_eq_decide.2 (by omega)
  cases h1 : decide (1 ≤ k) <;> rw [h1] at e1 <;> cases h2 : decide (k ≤ 5) <;> rw [h2] at e2 <;>
  simp only [fi73, Tryd.f73, an73, e1, e2, T5, EL, e_finWf, e_finWt, e_finMN, e_finMX, retM, meltV, tupV, D.asBox, D.row1, D.freeR, D.freeO, List.replicate_succ, stepD, accs, accP, accW, simpleOp, isAl, isExt, flipD, D.fresh1, D.row, D.plain, D.plain.plainL, St.close, St.close1, St.borrow, retV, resV, resL, outCL, outC, outL, outD, wantedV, opV, An.mid, thawV, St.settle, D.plainU, prune, envOf, get, put, eval, evalT, nz, argsV, capsV, ofV, binV, binV.aggV, unV, intV, eqOp, isConst, natV, optV, loadV, loadC, storeV, setC, St.at_, partV, partTy, indexAddrV, fieldAddrV, sliceV, sliceV.rowSl, sliceV.strSl, bounds, cutP, builtinV, lenV, maxL, maxV, appendV, St.elems, roomy, rowOf, rowS, isStr, esz, tdOf, convV, buildV, fillV, partsV, okParts, fillL, D.whole, D.demoteC, D.demote, demoteL, D.global, D.flat, D.leaf, D.cells, TI.agg, TD.rowish, callOpV, moveL, CC, keepB, St.borrowL, St.borrow, D.isLsl, adoptR, adoptC, adoptCL, adoptL, adopt, List.toArray, Array.toList, Nat.reduceEqDiff, Nat.reduceAdd, Nat.reduceSub, Nat.reduceMul, Nat.reduceLeDiff, Nat.reduceLT, reduceIte, reduceCtorEq, forall_const, imp_self, Int.reduceNeg, Int.reduceLT, Int.reduceLE, Int.reduceGT, Int.reduceGE, Int.reduceAdd, Int.reduceSub, Int.reduceMul, Int.reduceToNat, Int.reduceEq, ne_eq, eq_self]
theorem c73 (hC : Lib05 C) (k : Nat) (B : Hp) : C 73 [.int .u8 k] B = some (.bool (kindS k), B) := hC.f73 _ _ _ (run73 C k B)

set_option maxRecDepth 10000 in
theorem run81 (C : Callees) (c : UInt8) (B : Hp) : runV T C fi81 [.int .u8 c.toNat] B = some (.bool (!(c == 0)), B) := by
  rw [e_run _ _ _ rfl]
  have e : decide (((c.toNat : Nat) : Int) = 0) = (c == 0) := by
    rw [Bool.eq_iff_iff, decide_eq_true_eq, beq_iff_eq]
    constructor
    · intro h; exact UInt8.toNat_inj.1 (by simpa using h)
    · intro h; subst h; rfl
  simp only [fi81, Tryd.f81, an81, e, T5, EL, e_finWf, e_finWt, e_finMN, e_finMX, retM, meltV, tupV, D.asBox, D.row1, D.freeR, D.freeO, List.replicate_succ, stepD, accs, accP, accW, simpleOp, isAl, isExt, flipD, D.fresh1, D.row, D.plain, D.plain.plainL, St.close, St.close1, St.borrow, retV, resV, resL, outCL, outC, outL, outD, wantedV, opV, An.mid, thawV, St.settle, D.plainU, prune, envOf, get, put, eval, evalT, nz, argsV, capsV, ofV, binV, binV.aggV, unV, intV, eqOp, isConst, natV, optV, loadV, loadC, storeV, setC, St.at_, partV, partTy, indexAddrV, fieldAddrV, sliceV, sliceV.rowSl, sliceV.strSl, bounds, cutP, builtinV, lenV, maxL, maxV, appendV, St.elems, roomy, rowOf, rowS, isStr, esz, tdOf, convV, buildV, fillV, partsV, okParts, fillL, D.whole, D.demoteC, D.demote, demoteL, D.global, D.flat, D.leaf, D.cells, TI.agg, TD.rowish, callOpV, moveL, CC, keepB, St.borrowL, St.borrow, D.isLsl, adoptR, adoptC, adoptCL, adoptL, adopt, List.toArray, Array.toList, Nat.reduceEqDiff, Nat.reduceAdd, Nat.reduceSub, Nat.reduceMul, Nat.reduceLeDiff, Nat.reduceLT, reduceIte, reduceCtorEq, forall_const, imp_self, Int.reduceNeg, Int.reduceLT, Int.reduceLE, Int.reduceGT, Int.reduceGE, Int.reduceAdd, Int.reduceSub, Int.reduceMul, Int.reduceToNat, Int.reduceEq, ne_eq, eq_self]
theorem c81 (hC : Lib05 C) (c : UInt8) (B : Hp) : C 81 [.int .u8 c.toNat] B = some (.bool (!(c == 0)), B) := hC.f81 _ _ _ (run81 C c B)

def st93 (B : Hp) (l : List UInt8) (k : Nat) : St := ⟨[(0, byV l .none), (1, .fn 81 []), (7, .int .i64 l.length), (8, .int .i64 k)], [], [], B⟩
set_option maxRecDepth 10000 in
theorem loop93 (hC : Lib05 C) (B : Hp) (l : List UInt8) (hl : l.length ≤ 1000000) (st : St) (hst : an93.at_ (some 2) st = st93 B l 0) :
    ∃ x st', loopC T an93 C lp93_0 st = some (x, st') ∧ ∃ ρ, st' = ⟨ρ, [], [], B⟩ ∧ ((x = .exit 0 ∧ blankS l = true) ∨ (x = .ret ∧ blankS l = false ∧ ∃ k : Nat, get ρ 4 = .int .i64 k)) := by
  refine loop_rule (st93 B l) (fun k => k ≤ l.length ∧ blankS (l.take k) = true) (fun k => l.length - k) _ ?_ 0 st hst ⟨Nat.zero_le _, rfl⟩
  rintro k ⟨hk, hI⟩
  rcases Nat.lt_or_ge k l.length with h | h
  · have hc := List.getElem?_eq_getElem h
    generalize l[k] = c at hc
    have g0 : (k : Int) < l.length := by omega
    have g1 : (0 : Int) ≤ k := by omega
    have g2 : (l.map byteD)[k]? = some (.int .u8 c.toNat) := by rw [List.getElem?_map, hc]; rfl
    have w1 : IntKind.i64.wrap ((k : Int) + 1) = ((k + 1 : Nat) : Int) := by rw [wrapI (by omega) (by omega)]; rfl
    have c1 := c81 hC c
    cases e : c == 0 <;> rw [e] at c1
    · right
      have hb : blankS l = false := by
        cases hb : blankS l with
        | false => rfl
        | true =>
          have := List.all_eq_true.1 hb c (List.mem_of_getElem? hc)
          rw [e] at this; cases this
      simp only [st93, lp93_0, subC, atC, Tryd.f93, an93, g0, g1, g2, w1, c1, AL, T3, T5, T33, EL, e_finWf, e_finWt, e_finMN, e_finMX, retM, meltV, tupV, D.asBox, D.row1, D.freeR, D.freeO, List.replicate_succ, stepD, accs, accP, accW, simpleOp, isAl, isExt, flipD, D.fresh1, D.row, D.plain, D.plain.plainL, St.close, St.close1, St.borrow, retV, resV, resL, outCL, outC, outL, outD, wantedV, opV, An.mid, thawV, St.settle, D.plainU, prune, envOf, get, put, eval, evalT, nz, argsV, capsV, ofV, binV, binV.aggV, unV, intV, eqOp, isConst, natV, optV, loadV, loadC, storeV, setC, St.at_, partV, partTy, indexAddrV, fieldAddrV, sliceV, sliceV.rowSl, sliceV.strSl, bounds, cutP, builtinV, lenV, maxL, maxV, appendV, St.elems, roomy, rowOf, rowS, isStr, esz, tdOf, convV, buildV, fillV, partsV, okParts, fillL, D.whole, D.demoteC, D.demote, demoteL, D.global, D.flat, D.leaf, D.cells, TI.agg, TD.rowish, callOpV, moveL, CC, keepB, St.borrowL, St.borrow, D.isLsl, adoptR, adoptC, adoptCL, adoptL, adopt, List.toArray, Array.toList, Nat.reduceEqDiff, Nat.reduceAdd, Nat.reduceSub, Nat.reduceMul, Nat.reduceLeDiff, Nat.reduceLT, reduceIte, reduceCtorEq, forall_const, imp_self, Int.reduceNeg, Int.reduceLT, Int.reduceLE, Int.reduceGT, Int.reduceGE, Int.reduceAdd, Int.reduceSub, Int.reduceMul, Int.reduceToNat, Int.reduceEq, ne_eq, eq_self]
      exact ⟨_, _, rfl, by simp, _, rfl, .inr ⟨rfl, hb, k, rfl⟩⟩
    · left
      refine ⟨k + 1, ?_, ⟨by omega, ?_⟩, by omega⟩
      · simp only [st93, lp93_0, subC, atC, Tryd.f93, an93, g0, g1, g2, w1, c1, AL, T3, T5, T33, EL, e_finWf, e_finWt, e_finMN, e_finMX, retM, meltV, tupV, D.asBox, D.row1, D.freeR, D.freeO, List.replicate_succ, stepD, accs, accP, accW, simpleOp, isAl, isExt, flipD, D.fresh1, D.row, D.plain, D.plain.plainL, St.close, St.close1, St.borrow, retV, resV, resL, outCL, outC, outL, outD, wantedV, opV, An.mid, thawV, St.settle, D.plainU, prune, envOf, get, put, eval, evalT, nz, argsV, capsV, ofV, binV, binV.aggV, unV, intV, eqOp, isConst, natV, optV, loadV, loadC, storeV, setC, St.at_, partV, partTy, indexAddrV, fieldAddrV, sliceV, sliceV.rowSl, sliceV.strSl, bounds, cutP, builtinV, lenV, maxL, maxV, appendV, St.elems, roomy, rowOf, rowS, isStr, esz, tdOf, convV, buildV, fillV, partsV, okParts, fillL, D.whole, D.demoteC, D.demote, demoteL, D.global, D.flat, D.leaf, D.cells, TI.agg, TD.rowish, callOpV, moveL, CC, keepB, St.borrowL, St.borrow, D.isLsl, adoptR, adoptC, adoptCL, adoptL, adopt, List.toArray, Array.toList, Nat.reduceEqDiff, Nat.reduceAdd, Nat.reduceSub, Nat.reduceMul, Nat.reduceLeDiff, Nat.reduceLT, reduceIte, reduceCtorEq, forall_const, imp_self, Int.reduceNeg, Int.reduceLT, Int.reduceLE, Int.reduceGT, Int.reduceGE, Int.reduceAdd, Int.reduceSub, Int.reduceMul, Int.reduceToNat, Int.reduceEq, ne_eq, eq_self]
        exact ⟨_, rfl, rfl⟩
      · unfold blankS at hI ⊢
        rw [List.take_add_one, hc, List.all_append, hI]
        simp [e]
  · right
    obtain rfl : k = l.length := by omega
    have g0 : ¬ ((l.length : Nat) : Int) < l.length := by omega
    rw [List.take_length] at hI
    simp only [st93, lp93_0, subC, atC, Tryd.f93, an93, g0, T3, T5, T33, EL, e_finWf, e_finWt, e_finMN, e_finMX, retM, meltV, tupV, D.asBox, D.row1, D.freeR, D.freeO, List.replicate_succ, stepD, accs, accP, accW, simpleOp, isAl, isExt, flipD, D.fresh1, D.row, D.plain, D.plain.plainL, St.close, St.close1, St.borrow, retV, resV, resL, outCL, outC, outL, outD, wantedV, opV, An.mid, thawV, St.settle, D.plainU, prune, envOf, get, put, eval, evalT, nz, argsV, capsV, ofV, binV, binV.aggV, unV, intV, eqOp, isConst, natV, optV, loadV, loadC, storeV, setC, St.at_, partV, partTy, indexAddrV, fieldAddrV, sliceV, sliceV.rowSl, sliceV.strSl, bounds, cutP, builtinV, lenV, maxL, maxV, appendV, St.elems, roomy, rowOf, rowS, isStr, esz, tdOf, convV, buildV, fillV, partsV, okParts, fillL, D.whole, D.demoteC, D.demote, demoteL, D.global, D.flat, D.leaf, D.cells, TI.agg, TD.rowish, callOpV, moveL, CC, keepB, St.borrowL, St.borrow, D.isLsl, adoptR, adoptC, adoptCL, adoptL, adopt, List.toArray, Array.toList, Nat.reduceEqDiff, Nat.reduceAdd, Nat.reduceSub, Nat.reduceMul, Nat.reduceLeDiff, Nat.reduceLT, reduceIte, reduceCtorEq, forall_const, imp_self, Int.reduceNeg, Int.reduceLT, Int.reduceLE, Int.reduceGT, Int.reduceGE, Int.reduceAdd, Int.reduceSub, Int.reduceMul, Int.reduceToNat, Int.reduceEq, ne_eq, eq_self]
    exact ⟨_, _, rfl, by simp, _, rfl, .inl ⟨rfl, hI⟩⟩

set_option maxRecDepth 10000 in
theorem run93 (hC : Lib05 C) (l : List UInt8) (hl : l.length ≤ 1000000) (B : Hp) : ∃ n : Int, decide (n ≥ 0) = !blankS l ∧ runV T C fi93 [byV l .none, .fn 81 []] B = some (.int .i64 n, B) := by
  simp only [e_run _ _ _ (show [byV l .none, .fn 81 []].length = fi93.np from rfl)]
  simp only [fi93, Tryd.f93, an93, T3, T5, T33, EL, e_finWf, e_finWt, e_finMN, e_finMX, retM, meltV, tupV, D.asBox, D.row1, D.freeR, D.freeO, List.replicate_succ, stepD, accs, accP, accW, simpleOp, isAl, isExt, flipD, D.fresh1, D.row, D.plain, D.plain.plainL, St.close, St.close1, St.borrow, retV, resV, resL, outCL, outC, outL, outD, wantedV, opV, An.mid, thawV, St.settle, D.plainU, prune, envOf, get, put, eval, evalT, nz, argsV, capsV, ofV, binV, binV.aggV, unV, intV, eqOp, isConst, natV, optV, loadV, loadC, storeV, setC, St.at_, partV, partTy, indexAddrV, fieldAddrV, sliceV, sliceV.rowSl, sliceV.strSl, bounds, cutP, builtinV, lenV, maxL, maxV, appendV, St.elems, roomy, rowOf, rowS, isStr, esz, tdOf, convV, buildV, fillV, partsV, okParts, fillL, D.whole, D.demoteC, D.demote, demoteL, D.global, D.flat, D.leaf, D.cells, TI.agg, TD.rowish, callOpV, moveL, CC, keepB, St.borrowL, St.borrow, D.isLsl, adoptR, adoptC, adoptCL, adoptL, adopt, List.toArray, Array.toList, Nat.reduceEqDiff, Nat.reduceAdd, Nat.reduceSub, Nat.reduceMul, Nat.reduceLeDiff, Nat.reduceLT, reduceIte, reduceCtorEq, forall_const, imp_self, Int.reduceNeg, Int.reduceLT, Int.reduceLE, Int.reduceGT, Int.reduceGE, Int.reduceAdd, Int.reduceSub, Int.reduceMul, Int.reduceToNat, Int.reduceEq, ne_eq, eq_self]
  refine in_loopP (fun r => ∃ n : Int, decide (n ≥ 0) = !blankS l ∧ fin T [ResultVar.tmp 4] false B r = some (.int .i64 n, B)) (c' := lp93_0) (loop93 hC B l hl _ ?h) rfl ?q
  case h =>
    simp only [an93, ren_map, toks_map, boxes_map, st93, An.at_, tidyV, tidyW, tidyB, tidyT, sift, envBoxes, envToks, conToks, D.toks, D.tok1, toksL, D.boxes, D.box1, boxesL, memN, posN, renE, D.ren, D.ren1, renL, renB, St.content, St.boxOk, St.tokOk, trues, T3, T5, T33, EL, e_finWf, e_finWt, e_finMN, e_finMX, retM, meltV, tupV, D.asBox, D.row1, D.freeR, D.freeO, List.replicate_succ, stepD, accs, accP, accW, simpleOp, isAl, isExt, flipD, D.fresh1, D.row, D.plain, D.plain.plainL, St.close, St.close1, St.borrow, retV, resV, resL, outCL, outC, outL, outD, wantedV, opV, An.mid, thawV, St.settle, D.plainU, prune, envOf, get, put, eval, evalT, nz, argsV, capsV, ofV, binV, binV.aggV, unV, intV, eqOp, isConst, natV, optV, loadV, loadC, storeV, setC, St.at_, partV, partTy, indexAddrV, fieldAddrV, sliceV, sliceV.rowSl, sliceV.strSl, bounds, cutP, builtinV, lenV, maxL, maxV, appendV, St.elems, roomy, rowOf, rowS, isStr, esz, tdOf, convV, buildV, fillV, partsV, okParts, fillL, D.whole, D.demoteC, D.demote, demoteL, D.global, D.flat, D.leaf, D.cells, TI.agg, TD.rowish, callOpV, moveL, CC, keepB, St.borrowL, St.borrow, D.isLsl, adoptR, adoptC, adoptCL, adoptL, adopt, List.toArray, Array.toList, Nat.reduceEqDiff, Nat.reduceAdd, Nat.reduceSub, Nat.reduceMul, Nat.reduceLeDiff, Nat.reduceLT, reduceIte, reduceCtorEq, forall_const, imp_self, Int.reduceNeg, Int.reduceLT, Int.reduceLE, Int.reduceGT, Int.reduceGE, Int.reduceAdd, Int.reduceSub, Int.reduceMul, Int.reduceToNat, Int.reduceEq, ne_eq, eq_self]
    rfl
  rintro x st' ⟨ρ, rfl, ⟨rfl, hb⟩ | ⟨rfl, hb, k, hk⟩⟩
  · refine ⟨-1, by rw [hb]; rfl, ?_⟩
    simp only [T3, T5, T33, EL, e_finWf, e_finWt, e_finMN, e_finMX, retM, meltV, tupV, D.asBox, D.row1, D.freeR, D.freeO, List.replicate_succ, stepD, accs, accP, accW, simpleOp, isAl, isExt, flipD, D.fresh1, D.row, D.plain, D.plain.plainL, St.close, St.close1, St.borrow, retV, resV, resL, outCL, outC, outL, outD, wantedV, opV, An.mid, thawV, St.settle, D.plainU, prune, envOf, get, put, eval, evalT, nz, argsV, capsV, ofV, binV, binV.aggV, unV, intV, eqOp, isConst, natV, optV, loadV, loadC, storeV, setC, St.at_, partV, partTy, indexAddrV, fieldAddrV, sliceV, sliceV.rowSl, sliceV.strSl, bounds, cutP, builtinV, lenV, maxL, maxV, appendV, St.elems, roomy, rowOf, rowS, isStr, esz, tdOf, convV, buildV, fillV, partsV, okParts, fillL, D.whole, D.demoteC, D.demote, demoteL, D.global, D.flat, D.leaf, D.cells, TI.agg, TD.rowish, callOpV, moveL, CC, keepB, St.borrowL, St.borrow, D.isLsl, adoptR, adoptC, adoptCL, adoptL, adopt, List.toArray, Array.toList, Nat.reduceEqDiff, Nat.reduceAdd, Nat.reduceSub, Nat.reduceMul, Nat.reduceLeDiff, Nat.reduceLT, reduceIte, reduceCtorEq, forall_const, imp_self, Int.reduceNeg, Int.reduceLT, Int.reduceLE, Int.reduceGT, Int.reduceGE, Int.reduceAdd, Int.reduceSub, Int.reduceMul, Int.reduceToNat, Int.reduceEq, ne_eq, eq_self]
  · refine ⟨k, by rw [hb]; simp, ?_⟩
    simp only [hk, T3, T5, T33, EL, e_finWf, e_finWt, e_finMN, e_finMX, retM, meltV, tupV, D.asBox, D.row1, D.freeR, D.freeO, List.replicate_succ, stepD, accs, accP, accW, simpleOp, isAl, isExt, flipD, D.fresh1, D.row, D.plain, D.plain.plainL, St.close, St.close1, St.borrow, retV, resV, resL, outCL, outC, outL, outD, wantedV, opV, An.mid, thawV, St.settle, D.plainU, prune, envOf, get, put, eval, evalT, nz, argsV, capsV, ofV, binV, binV.aggV, unV, intV, eqOp, isConst, natV, optV, loadV, loadC, storeV, setC, St.at_, partV, partTy, indexAddrV, fieldAddrV, sliceV, sliceV.rowSl, sliceV.strSl, bounds, cutP, builtinV, lenV, maxL, maxV, appendV, St.elems, roomy, rowOf, rowS, isStr, esz, tdOf, convV, buildV, fillV, partsV, okParts, fillL, D.whole, D.demoteC, D.demote, demoteL, D.global, D.flat, D.leaf, D.cells, TI.agg, TD.rowish, callOpV, moveL, CC, keepB, St.borrowL, St.borrow, D.isLsl, adoptR, adoptC, adoptCL, adoptL, adopt, List.toArray, Array.toList, Nat.reduceEqDiff, Nat.reduceAdd, Nat.reduceSub, Nat.reduceMul, Nat.reduceLeDiff, Nat.reduceLT, reduceIte, reduceCtorEq, forall_const, imp_self, Int.reduceNeg, Int.reduceLT, Int.reduceLE, Int.reduceGT, Int.reduceGE, Int.reduceAdd, Int.reduceSub, Int.reduceMul, Int.reduceToNat, Int.reduceEq, ne_eq, eq_self]

set_option maxRecDepth 10000 in
theorem run80 (hC : Lib05 C) (l : List UInt8) (hl : l.length ≤ 1000000) (B : Hp) : runV T C fi80 [byV l .none, .fn 81 []] B = some (.bool (!blankS l), B) := by
  rw [e_run _ _ _ rfl]
  obtain ⟨n, h1, h2⟩ := run93 hC l hl B
  have c1 := hC.f93 _ _ _ h2
  simp only [fi80, Tryd.f80, an80, c1, h1, T3, EL, e_finWf, e_finWt, e_finMN, e_finMX, retM, meltV, tupV, D.asBox, D.row1, D.freeR, D.freeO, List.replicate_succ, stepD, accs, accP, accW, simpleOp, isAl, isExt, flipD, D.fresh1, D.row, D.plain, D.plain.plainL, St.close, St.close1, St.borrow, retV, resV, resL, outCL, outC, outL, outD, wantedV, opV, An.mid, thawV, St.settle, D.plainU, prune, envOf, get, put, eval, evalT, nz, argsV, capsV, ofV, binV, binV.aggV, unV, intV, eqOp, isConst, natV, optV, loadV, loadC, storeV, setC, St.at_, partV, partTy, indexAddrV, fieldAddrV, sliceV, sliceV.rowSl, sliceV.strSl, bounds, cutP, builtinV, lenV, maxL, maxV, appendV, St.elems, roomy, rowOf, rowS, isStr, esz, tdOf, convV, buildV, fillV, partsV, okParts, fillL, D.whole, D.demoteC, D.demote, demoteL, D.global, D.flat, D.leaf, D.cells, TI.agg, TD.rowish, callOpV, moveL, CC, keepB, St.borrowL, St.borrow, D.isLsl, adoptR, adoptC, adoptCL, adoptL, adopt, List.toArray, Array.toList, Nat.reduceEqDiff, Nat.reduceAdd, Nat.reduceSub, Nat.reduceMul, Nat.reduceLeDiff, Nat.reduceLT, reduceIte, reduceCtorEq, forall_const, imp_self, Int.reduceNeg, Int.reduceLT, Int.reduceLE, Int.reduceGT, Int.reduceGE, Int.reduceAdd, Int.reduceSub, Int.reduceMul, Int.reduceToNat, Int.reduceEq, ne_eq, eq_self]
theorem c80 (hC : Lib05 C) (l : List UInt8) (hl : l.length ≤ 1000000) (B : Hp) : C 80 [.vec 1 (l.map byteD) .none, .fn 81 []] B = some (.bool (!blankS l), B) := hC.f80 _ _ _ (run80 hC l hl B)
set_option maxRecDepth 10000 in
theorem run60 (hC : Lib05 C) (l : List UInt8) (hl : l.length ≤ 1000000) (B : Hp) : runV T C fi60 [byV l .none] B = some (.bool (blankS l), B) := by
  rw [e_run _ _ _ rfl]
  have c1 := c80 hC l hl
  cases e : blankS l <;> rw [e] at c1 <;>
  simp only [fi60, Tryd.f60, an60, c1, T4, EL, e_finWf, e_finWt, e_finMN, e_finMX, retM, meltV, tupV, D.asBox, D.row1, D.freeR, D.freeO, List.replicate_succ, stepD, accs, accP, accW, simpleOp, isAl, isExt, flipD, D.fresh1, D.row, D.plain, D.plain.plainL, St.close, St.close1, St.borrow, retV, resV, resL, outCL, outC, outL, outD, wantedV, opV, An.mid, thawV, St.settle, D.plainU, prune, envOf, get, put, eval, evalT, nz, argsV, capsV, ofV, binV, binV.aggV, unV, intV, eqOp, isConst, natV, optV, loadV, loadC, storeV, setC, St.at_, partV, partTy, indexAddrV, fieldAddrV, sliceV, sliceV.rowSl, sliceV.strSl, bounds, cutP, builtinV, lenV, maxL, maxV, appendV, St.elems, roomy, rowOf, rowS, isStr, esz, tdOf, convV, buildV, fillV, partsV, okParts, fillL, D.whole, D.demoteC, D.demote, demoteL, D.global, D.flat, D.leaf, D.cells, TI.agg, TD.rowish, callOpV, moveL, CC, keepB, St.borrowL, St.borrow, D.isLsl, adoptR, adoptC, adoptCL, adoptL, adopt, List.toArray, Array.toList, Nat.reduceEqDiff, Nat.reduceAdd, Nat.reduceSub, Nat.reduceMul, Nat.reduceLeDiff, Nat.reduceLT, reduceIte, reduceCtorEq, forall_const, imp_self, Int.reduceNeg, Int.reduceLT, Int.reduceLE, Int.reduceGT, Int.reduceGE, Int.reduceAdd, Int.reduceSub, Int.reduceMul, Int.reduceToNat, Int.reduceEq, ne_eq, eq_self]
theorem c60 (hC : Lib05 C) (l : List UInt8) (hl : l.length ≤ 1000000) (B : Hp) : C 60 [.vec 1 (l.map byteD) .none] B = some (.bool (blankS l), B) := hC.f60 _ _ _ (run60 hC l hl B)

/-! ### Room -/
set_option maxRecDepth 10000 in
theorem run58_ok (C : Callees) (n : Nat) (h : n ≤ 504) (B : Hp) : runV T C fi58 [.int .i64 n] B = some (.tuple [.int .i64 (504 - n : Nat), .nili], B) := by
  rw [e_run _ _ _ rfl]
  have h1 : ¬ (n : Int) < 0 := by omega
  have h2 : ¬ (n : Int) > 504 := by omega
  have w1 : IntKind.i64.wrap (504 - (n : Int)) = ((504 - n : Nat) : Int) := by rw [wrapI (by omega) (by omega)]; omega
  simp only [fi58, Tryd.f58, an58, h1, h2, w1, T3, T102, EL, e_finWf, e_finWt, e_finMN, e_finMX, retM, meltV, tupV, D.asBox, D.row1, D.freeR, D.freeO, List.replicate_succ, stepD, accs, accP, accW, simpleOp, isAl, isExt, flipD, D.fresh1, D.row, D.plain, D.plain.plainL, St.close, St.close1, St.borrow, retV, resV, resL, outCL, outC, outL, outD, wantedV, opV, An.mid, thawV, St.settle, D.plainU, prune, envOf, get, put, eval, evalT, nz, argsV, capsV, ofV, binV, binV.aggV, unV, intV, eqOp, isConst, natV, optV, loadV, loadC, storeV, setC, St.at_, partV, partTy, indexAddrV, fieldAddrV, sliceV, sliceV.rowSl, sliceV.strSl, bounds, cutP, builtinV, lenV, maxL, maxV, appendV, St.elems, roomy, rowOf, rowS, isStr, esz, tdOf, convV, buildV, fillV, partsV, okParts, fillL, D.whole, D.demoteC, D.demote, demoteL, D.global, D.flat, D.leaf, D.cells, TI.agg, TD.rowish, callOpV, moveL, CC, keepB, St.borrowL, St.borrow, D.isLsl, adoptR, adoptC, adoptCL, adoptL, adopt, List.toArray, Array.toList, Nat.reduceEqDiff, Nat.reduceAdd, Nat.reduceSub, Nat.reduceMul, Nat.reduceLeDiff, Nat.reduceLT, reduceIte, reduceCtorEq, forall_const, imp_self, Int.reduceNeg, Int.reduceLT, Int.reduceLE, Int.reduceGT, Int.reduceGE, Int.reduceAdd, Int.reduceSub, Int.reduceMul, Int.reduceToNat, Int.reduceEq, ne_eq, eq_self]
set_option maxRecDepth 10000 in
theorem run58_big (C : Callees) (n : Nat) (h : 504 < n) (B : Hp) : runV T C fi58 [.int .i64 n] B = some (.tuple [.int .i64 0, errD 1], B) := by
  rw [e_run _ _ _ rfl]
  have h1 : ¬ (n : Int) < 0 := by omega
  have h2 : (n : Int) > 504 := by omega
  simp only [fi58, Tryd.f58, an58, h1, h2, T3, T102, EL, e_finWf, e_finWt, e_finMN, e_finMX, retM, meltV, tupV, D.asBox, D.row1, D.freeR, D.freeO, List.replicate_succ, stepD, accs, accP, accW, simpleOp, isAl, isExt, flipD, D.fresh1, D.row, D.plain, D.plain.plainL, St.close, St.close1, St.borrow, retV, resV, resL, outCL, outC, outL, outD, wantedV, opV, An.mid, thawV, St.settle, D.plainU, prune, envOf, get, put, eval, evalT, nz, argsV, capsV, ofV, binV, binV.aggV, unV, intV, eqOp, isConst, natV, optV, loadV, loadC, storeV, setC, St.at_, partV, partTy, indexAddrV, fieldAddrV, sliceV, sliceV.rowSl, sliceV.strSl, bounds, cutP, builtinV, lenV, maxL, maxV, appendV, St.elems, roomy, rowOf, rowS, isStr, esz, tdOf, convV, buildV, fillV, partsV, okParts, fillL, D.whole, D.demoteC, D.demote, demoteL, D.global, D.flat, D.leaf, D.cells, TI.agg, TD.rowish, callOpV, moveL, CC, keepB, St.borrowL, St.borrow, D.isLsl, adoptR, adoptC, adoptCL, adoptL, adopt, List.toArray, Array.toList, Nat.reduceEqDiff, Nat.reduceAdd, Nat.reduceSub, Nat.reduceMul, Nat.reduceLeDiff, Nat.reduceLT, reduceIte, reduceCtorEq, forall_const, imp_self, Int.reduceNeg, Int.reduceLT, Int.reduceLE, Int.reduceGT, Int.reduceGE, Int.reduceAdd, Int.reduceSub, Int.reduceMul, Int.reduceToNat, Int.reduceEq, ne_eq, eq_self]
  rfl
theorem rm_ok (hC : Lib05 C) (n : Nat) (h : n ≤ 504) (B : Hp) : C 58 [.int .i64 n] B = some (.tuple [.int .i64 (504 - n : Nat), .nili], B) := hC.f58 _ _ _ (run58_ok C n h B)
theorem rm_big (hC : Lib05 C) (n : Nat) (h : 504 < n) (B : Hp) : C 58 [.int .i64 n] B = some (.tuple [.int .i64 0, .iface 102 (.int .i64 1)], B) := hC.f58 _ _ _ (run58_big C n h B)

end Go.Proofs.YtbbbhalmlboapaaDoor.V
