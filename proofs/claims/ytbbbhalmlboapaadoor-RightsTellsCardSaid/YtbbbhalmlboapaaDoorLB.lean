/-
Layer 26: texts, and what must come.
-/
import Derived.Test.YtbbbhalmlboapaaDoorLA
import Derived.Lib.Bytealg
namespace Go.Proofs.YtbbbhalmlboapaaDoor.V
open Go Go.RowKit
set_option linter.unusedSimpArgs false
set_option linter.unusedVariables false

/-! warren/rights.Text -/
def an15 : An := ⟨fun _ => .none, fun _ => 0, fun _ => false, fun _ => .none⟩
noncomputable def fi15 : FI := ⟨1, 12, Tryd.f15.body.getD .skip, Tryd.f15.results.toList, an15, false, false, false⟩
theorem ok15 : FnOk Tryd.prog 15 fi15 := ⟨⟨Tryd.f15, Tryd.func15, by kernel_rfl, rfl, rfl, rfl⟩, by decide, by kernel_rfl, fun h => by cases h⟩
/-! warren/rights.Parse -/
def an17 : An := ⟨fun | 3 => some [0, 4, 9, 10, 11] | _ => .none, fun _ => 0, fun _ => false, fun _ => .none⟩
noncomputable def fi17 : FI := ⟨1, 31, Tryd.f17.body.getD .skip, Tryd.f17.results.toList, an17, false, false, false⟩
theorem ok17 : FnOk Tryd.prog 17 fi17 := ⟨⟨Tryd.f17, Tryd.func17, by kernel_rfl, rfl, rfl, rfl⟩, by decide, by kernel_rfl, fun h => by cases h⟩
noncomputable def lp17_0 : Code := subC [1, 1, 0, 1, 0, 0] (Tryd.f17.body.getD .skip)   -- head 3 keep [0, 4, 9, 10, 11]
/-! warren/warrenlaw26.sure -/
def an14 : An := ⟨fun _ => .none, fun _ => 0, fun _ => false, fun _ => .none⟩
noncomputable def fi14 : FI := ⟨0, 56, Tryd.f14.body.getD .skip, Tryd.f14.results.toList, an14, false, false, false⟩
theorem ok14 : FnOk Tryd.prog 14 fi14 := ⟨⟨Tryd.f14, Tryd.func14, by kernel_rfl, rfl, rfl, rfl⟩, by decide, by kernel_rfl, fun h => by cases h⟩
structure Lib26B (C : Callees) : Prop extends Lib26A C where
  fTE : Has T C 15 fi15
  fPA : Has T C 17 fi17
  tx : ∀ n : Nat, n < 256 → C 61 [.int .u8 (n : Nat)] [] = some (.str (textS (n % 64)), [])
  ix : ∀ s n B, C 62 [.str s, .int .u8 n] B = some (.int .i64 (Lib.indexByte s n.toNat.toUInt8), B)

variable {C : Callees}

theorem run15 (hC : Lib26B C) (r : Nat) (hr : r < 256) : runV T C fi15 [.int .u8 (r : Nat)] [] = some (.tuple [.str (if r < 64 then textS r else []), errD (if r < 64 then 0 else 1)], []) := by
  rw [e_run _ _ _ rfl]
  have c1 := c23 hC.toLib26A r []
  by_cases h : r < 64
  · rw [if_pos h] at c1 ⊢
    rw [if_pos h]
    rw [errD_zero] at c1 ⊢
    have c2 := hC.tx r hr
    rw [Nat.mod_eq_of_lt h] at c2
    simp only [fi15, Tryd.f15, an15, c1, c2, T24, EL, e_finWf, e_finWt, e_finMN, e_finMX, retM, meltV, tupV, D.asBox, D.row1, D.freeR, D.freeO, List.replicate_succ, stepD, accs, accP, accW, simpleOp, isAl, isExt, flipD, D.fresh1, D.row, D.plain, D.plain.plainL, St.close, St.close1, St.borrow, retV, resV, resL, outCL, outC, outL, outD, wantedV, opV, An.mid, thawV, St.settle, D.plainU, prune, envOf, get, put, eval, evalT, nz, argsV, capsV, ofV, binV, binV.aggV, unV, intV, eqOp, isConst, natV, optV, loadV, loadC, storeV, setC, St.at_, partV, partTy, indexAddrV, fieldAddrV, sliceV, sliceV.rowSl, sliceV.strSl, bounds, cutP, builtinV, lenV, maxL, maxV, appendV, St.elems, roomy, rowOf, rowS, isStr, esz, tdOf, convV, buildV, fillV, partsV, okParts, fillL, D.whole, D.demoteC, D.demote, demoteL, D.global, D.flat, D.leaf, D.cells, TI.agg, TD.rowish, callOpV, moveL, CC, keepB, St.borrowL, St.borrow, D.isLsl, adoptR, adoptC, adoptCL, adoptL, adopt, List.toArray, Array.toList, Nat.reduceEqDiff, Nat.reduceAdd, Nat.reduceSub, Nat.reduceMul, Nat.reduceLeDiff, Nat.reduceLT, reduceIte, reduceCtorEq, forall_const, imp_self, Int.reduceNeg, Int.reduceLT, Int.reduceLE, Int.reduceGT, Int.reduceGE, Int.reduceAdd, Int.reduceSub, Int.reduceMul, Int.reduceToNat, Int.reduceEq, ne_eq, eq_self]
  · rw [if_neg h] at c1 ⊢
    rw [if_neg h]
    rw [errD_pos (by decide)] at c1 ⊢
    simp only [fi15, Tryd.f15, an15, c1, T24, EL, e_finWf, e_finWt, e_finMN, e_finMX, retM, meltV, tupV, D.asBox, D.row1, D.freeR, D.freeO, List.replicate_succ, stepD, accs, accP, accW, simpleOp, isAl, isExt, flipD, D.fresh1, D.row, D.plain, D.plain.plainL, St.close, St.close1, St.borrow, retV, resV, resL, outCL, outC, outL, outD, wantedV, opV, An.mid, thawV, St.settle, D.plainU, prune, envOf, get, put, eval, evalT, nz, argsV, capsV, ofV, binV, binV.aggV, unV, intV, eqOp, isConst, natV, optV, loadV, loadC, storeV, setC, St.at_, partV, partTy, indexAddrV, fieldAddrV, sliceV, sliceV.rowSl, sliceV.strSl, bounds, cutP, builtinV, lenV, maxL, maxV, appendV, St.elems, roomy, rowOf, rowS, isStr, esz, tdOf, convV, buildV, fillV, partsV, okParts, fillL, D.whole, D.demoteC, D.demote, demoteL, D.global, D.flat, D.leaf, D.cells, TI.agg, TD.rowish, callOpV, moveL, CC, keepB, St.borrowL, St.borrow, D.isLsl, adoptR, adoptC, adoptCL, adoptL, adopt, List.toArray, Array.toList, Nat.reduceEqDiff, Nat.reduceAdd, Nat.reduceSub, Nat.reduceMul, Nat.reduceLeDiff, Nat.reduceLT, reduceIte, reduceCtorEq, forall_const, imp_self, Int.reduceNeg, Int.reduceLT, Int.reduceLE, Int.reduceGT, Int.reduceGE, Int.reduceAdd, Int.reduceSub, Int.reduceMul, Int.reduceToNat, Int.reduceEq, ne_eq, eq_self]
theorem c15 (hC : Lib26B C) (r : Nat) (hr : r < 256) : C 15 [.int .u8 (r : Nat)] [] = some (.tuple [.str (if r < 64 then textS r else []), errD (if r < 64 then 0 else 1)], []) := hC.fTE _ _ _ (run15 hC r hr)

set_option maxRecDepth 100000 in
theorem ix_all : ∀ n, n < 256 → Lib.indexByte [114, 119, 100, 115, 103, 97] (UInt8.ofNat n) = (match idxR (UInt8.ofNat n) with | some i => (i : Int) | none => -1) := by decide +kernel
theorem ix_of (c : UInt8) : Lib.indexByte [114, 119, 100, 115, 103, 97] ((((c.toNat : Nat) : Int)).toNat.toUInt8) = (match idxR c with | some i => (i : Int) | none => -1) := by
  have h := ix_all c.toNat c.toNat_lt
  have e : UInt8.ofNat c.toNat = c := UInt8.ofNat_toNat
  rw [e] at h
  rw [Int.toNat_natCast]
  show Lib.indexByte _ (UInt8.ofNat c.toNat) = _
  rw [e]; exact h

def rK (s : List UInt8) (k : Nat) : Nat := (s.take k).foldl stepR 0
theorem rK_lt (s : List UInt8) (k : Nat) : rK s k < 64 := parseR_lt _
theorem rK_step {s : List UInt8} {k : Nat} {c : UInt8} (h : s[k]? = some c) : rK s (k + 1) = stepR (rK s k) c := by
  unfold rK
  rw [List.take_add_one, h, List.foldl_append]; rfl
def st17 (s : List UInt8) (k : Nat) : St := ⟨[(0, .str s), (4, .int .u8 (rK s k : Nat)), (9, .vec 1 (s.map byteD) .none), (10, .int .i64 s.length), (11, .int .i64 (k : Nat))], [], [], []⟩
set_option maxRecDepth 20000 in
set_option maxHeartbeats 2000000 in
theorem loop17 (hC : Lib26B C) (s : List UInt8) (hs : s.length ≤ 1000) (st : St) (hst : an17.at_ (some 3) st = st17 s 0) :
    ∃ x st', loopC T an17 C lp17_0 st = some (x, st') ∧ x = .exit 0 ∧ ∃ ρ, st' = ⟨ρ, [], [], []⟩ ∧ get ρ 0 = .str s ∧ get ρ 4 = .int .u8 (parseR s : Nat) := by
  refine loop_rule (st17 s) (fun k => k ≤ s.length) (fun k => s.length - k) _ ?_ 0 st hst (Nat.zero_le _)
  intro k hk
  simp only [st17]
  rcases Nat.lt_or_ge k s.length with h | h
  · left
    have g0 : (k : Int) < s.length := by omega
    have g1 := pnat k
    have w1 : IntKind.i64.wrap ((k : Int) + 1) = ((k + 1 : Nat) : Int) := by rw [wrapI (by omega) (by omega)]; rfl
    have hc : s[k]? = some s[k] := List.getElem?_eq_getElem h
    have e1 : (s.map byteD)[k]? = some (.int .u8 (s[k].toNat : Nat)) := by rw [List.getElem?_map, hc]; rfl
    have hst := rK_step hc
    generalize s[k] = c at hc e1 hst
    have c1 := hC.ix [114, 119, 100, 115, 103, 97] ((c.toNat : Nat) : Int) []
    rw [ix_of] at c1
    have hr := rK_lt s k
    refine ⟨k + 1, ?_, by omega, by omega⟩
    unfold stepR at hst
    cases hi : idxR c with
    | none =>
      rw [hi] at c1 hst
      simp only at c1 hst
      rw [hst]
      simp only [st17, lp17_0, subC, atC, Tryd.f17, an17, g0, g1, w1, e1, c1, Int.toNat_natCast, AL, T3, T5, T9, T33, T59, T102, EL, e_finWf, e_finWt, e_finMN, e_finMX, retM, meltV, tupV, D.asBox, D.row1, D.freeR, D.freeO, List.replicate_succ, stepD, accs, accP, accW, simpleOp, isAl, isExt, flipD, D.fresh1, D.row, D.plain, D.plain.plainL, St.close, St.close1, St.borrow, retV, resV, resL, outCL, outC, outL, outD, wantedV, opV, An.mid, thawV, St.settle, D.plainU, prune, envOf, get, put, eval, evalT, nz, argsV, capsV, ofV, binV, binV.aggV, unV, intV, eqOp, isConst, natV, optV, loadV, loadC, storeV, setC, St.at_, partV, partTy, indexAddrV, fieldAddrV, sliceV, sliceV.rowSl, sliceV.strSl, bounds, cutP, builtinV, lenV, maxL, maxV, appendV, St.elems, roomy, rowOf, rowS, isStr, esz, tdOf, convV, buildV, fillV, partsV, okParts, fillL, D.whole, D.demoteC, D.demote, demoteL, D.global, D.flat, D.leaf, D.cells, TI.agg, TD.rowish, callOpV, moveL, CC, keepB, St.borrowL, St.borrow, D.isLsl, adoptR, adoptC, adoptCL, adoptL, adopt, List.toArray, Array.toList, Nat.reduceEqDiff, Nat.reduceAdd, Nat.reduceSub, Nat.reduceMul, Nat.reduceLeDiff, Nat.reduceLT, reduceIte, reduceCtorEq, forall_const, imp_self, Int.reduceNeg, Int.reduceLT, Int.reduceLE, Int.reduceGT, Int.reduceGE, Int.reduceAdd, Int.reduceSub, Int.reduceMul, Int.reduceToNat, Int.reduceEq, ne_eq, eq_self]
      refine ⟨_, rfl, ?_⟩
      show an17.at_ (some 3) _ = _
      simp only [an17, ren_map, toks_map, boxes_map, AL, An.at_, tidyV, tidyW, tidyB, tidyT, sift, envBoxes, envToks, conToks, D.toks, D.tok1, toksL, D.boxes, D.box1, boxesL, memN, posN, renE, D.ren, D.ren1, renL, renB, St.content, St.boxOk, St.tokOk, trues, T3, T5, T9, T33, T59, T102, EL, e_finWf, e_finWt, e_finMN, e_finMX, retM, meltV, tupV, D.asBox, D.row1, D.freeR, D.freeO, List.replicate_succ, stepD, accs, accP, accW, simpleOp, isAl, isExt, flipD, D.fresh1, D.row, D.plain, D.plain.plainL, St.close, St.close1, St.borrow, retV, resV, resL, outCL, outC, outL, outD, wantedV, opV, An.mid, thawV, St.settle, D.plainU, prune, envOf, get, put, eval, evalT, nz, argsV, capsV, ofV, binV, binV.aggV, unV, intV, eqOp, isConst, natV, optV, loadV, loadC, storeV, setC, St.at_, partV, partTy, indexAddrV, fieldAddrV, sliceV, sliceV.rowSl, sliceV.strSl, bounds, cutP, builtinV, lenV, maxL, maxV, appendV, St.elems, roomy, rowOf, rowS, isStr, esz, tdOf, convV, buildV, fillV, partsV, okParts, fillL, D.whole, D.demoteC, D.demote, demoteL, D.global, D.flat, D.leaf, D.cells, TI.agg, TD.rowish, callOpV, moveL, CC, keepB, St.borrowL, St.borrow, D.isLsl, adoptR, adoptC, adoptCL, adoptL, adopt, List.toArray, Array.toList, Nat.reduceEqDiff, Nat.reduceAdd, Nat.reduceSub, Nat.reduceMul, Nat.reduceLeDiff, Nat.reduceLT, reduceIte, reduceCtorEq, forall_const, imp_self, Int.reduceNeg, Int.reduceLT, Int.reduceLE, Int.reduceGT, Int.reduceGE, Int.reduceAdd, Int.reduceSub, Int.reduceMul, Int.reduceToNat, Int.reduceEq, ne_eq, eq_self]
    | some i =>
      have i6 := idxR_lt hi
      rw [hi] at c1 hst
      simp only at c1 hst
      rw [hst]
      have s1 := shl8 i i6
      have p6 : 2 ^ i < 64 := Nat.pow_lt_pow_right (n := 6) (by decide) i6
      have o1 := u8_or (rK s k) (2 ^ i) (by omega) (by omega)
      have w2 : IntKind.u64.wrap ((i : Nat) : Int) = (i : Nat) := wrap_u64 (by omega) (by omega)
      have i0 := pnat i
      have i1 : ¬ ((i : Nat) : Int) < 0 := by omega
      simp only [st17, lp17_0, subC, atC, Tryd.f17, an17, g0, g1, w1, w2, e1, c1, s1, o1, i0, i1, Int.toNat_natCast, AL, T3, T5, T9, T33, T59, T102, EL, e_finWf, e_finWt, e_finMN, e_finMX, retM, meltV, tupV, D.asBox, D.row1, D.freeR, D.freeO, List.replicate_succ, stepD, accs, accP, accW, simpleOp, isAl, isExt, flipD, D.fresh1, D.row, D.plain, D.plain.plainL, St.close, St.close1, St.borrow, retV, resV, resL, outCL, outC, outL, outD, wantedV, opV, An.mid, thawV, St.settle, D.plainU, prune, envOf, get, put, eval, evalT, nz, argsV, capsV, ofV, binV, binV.aggV, unV, intV, eqOp, isConst, natV, optV, loadV, loadC, storeV, setC, St.at_, partV, partTy, indexAddrV, fieldAddrV, sliceV, sliceV.rowSl, sliceV.strSl, bounds, cutP, builtinV, lenV, maxL, maxV, appendV, St.elems, roomy, rowOf, rowS, isStr, esz, tdOf, convV, buildV, fillV, partsV, okParts, fillL, D.whole, D.demoteC, D.demote, demoteL, D.global, D.flat, D.leaf, D.cells, TI.agg, TD.rowish, callOpV, moveL, CC, keepB, St.borrowL, St.borrow, D.isLsl, adoptR, adoptC, adoptCL, adoptL, adopt, List.toArray, Array.toList, Nat.reduceEqDiff, Nat.reduceAdd, Nat.reduceSub, Nat.reduceMul, Nat.reduceLeDiff, Nat.reduceLT, reduceIte, reduceCtorEq, forall_const, imp_self, Int.reduceNeg, Int.reduceLT, Int.reduceLE, Int.reduceGT, Int.reduceGE, Int.reduceAdd, Int.reduceSub, Int.reduceMul, Int.reduceToNat, Int.reduceEq, ne_eq, eq_self]
      refine ⟨_, rfl, ?_⟩
      show an17.at_ (some 3) _ = _
      simp only [an17, ren_map, toks_map, boxes_map, AL, An.at_, tidyV, tidyW, tidyB, tidyT, sift, envBoxes, envToks, conToks, D.toks, D.tok1, toksL, D.boxes, D.box1, boxesL, memN, posN, renE, D.ren, D.ren1, renL, renB, St.content, St.boxOk, St.tokOk, trues, T3, T5, T9, T33, T59, T102, EL, e_finWf, e_finWt, e_finMN, e_finMX, retM, meltV, tupV, D.asBox, D.row1, D.freeR, D.freeO, List.replicate_succ, stepD, accs, accP, accW, simpleOp, isAl, isExt, flipD, D.fresh1, D.row, D.plain, D.plain.plainL, St.close, St.close1, St.borrow, retV, resV, resL, outCL, outC, outL, outD, wantedV, opV, An.mid, thawV, St.settle, D.plainU, prune, envOf, get, put, eval, evalT, nz, argsV, capsV, ofV, binV, binV.aggV, unV, intV, eqOp, isConst, natV, optV, loadV, loadC, storeV, setC, St.at_, partV, partTy, indexAddrV, fieldAddrV, sliceV, sliceV.rowSl, sliceV.strSl, bounds, cutP, builtinV, lenV, maxL, maxV, appendV, St.elems, roomy, rowOf, rowS, isStr, esz, tdOf, convV, buildV, fillV, partsV, okParts, fillL, D.whole, D.demoteC, D.demote, demoteL, D.global, D.flat, D.leaf, D.cells, TI.agg, TD.rowish, callOpV, moveL, CC, keepB, St.borrowL, St.borrow, D.isLsl, adoptR, adoptC, adoptCL, adoptL, adopt, List.toArray, Array.toList, Nat.reduceEqDiff, Nat.reduceAdd, Nat.reduceSub, Nat.reduceMul, Nat.reduceLeDiff, Nat.reduceLT, reduceIte, reduceCtorEq, forall_const, imp_self, Int.reduceNeg, Int.reduceLT, Int.reduceLE, Int.reduceGT, Int.reduceGE, Int.reduceAdd, Int.reduceSub, Int.reduceMul, Int.reduceToNat, Int.reduceEq, ne_eq, eq_self]
  · right
    obtain rfl : k = s.length := by omega
    have g0 : ¬ ((s.length : Nat) : Int) < s.length := by omega
    have e : rK s s.length = parseR s := by unfold rK parseR; rw [List.take_length]
    simp only [st17, lp17_0, subC, atC, Tryd.f17, an17, g0, T3, T5, T9, T33, T59, T102, EL, e_finWf, e_finWt, e_finMN, e_finMX, retM, meltV, tupV, D.asBox, D.row1, D.freeR, D.freeO, List.replicate_succ, stepD, accs, accP, accW, simpleOp, isAl, isExt, flipD, D.fresh1, D.row, D.plain, D.plain.plainL, St.close, St.close1, St.borrow, retV, resV, resL, outCL, outC, outL, outD, wantedV, opV, An.mid, thawV, St.settle, D.plainU, prune, envOf, get, put, eval, evalT, nz, argsV, capsV, ofV, binV, binV.aggV, unV, intV, eqOp, isConst, natV, optV, loadV, loadC, storeV, setC, St.at_, partV, partTy, indexAddrV, fieldAddrV, sliceV, sliceV.rowSl, sliceV.strSl, bounds, cutP, builtinV, lenV, maxL, maxV, appendV, St.elems, roomy, rowOf, rowS, isStr, esz, tdOf, convV, buildV, fillV, partsV, okParts, fillL, D.whole, D.demoteC, D.demote, demoteL, D.global, D.flat, D.leaf, D.cells, TI.agg, TD.rowish, callOpV, moveL, CC, keepB, St.borrowL, St.borrow, D.isLsl, adoptR, adoptC, adoptCL, adoptL, adopt, List.toArray, Array.toList, Nat.reduceEqDiff, Nat.reduceAdd, Nat.reduceSub, Nat.reduceMul, Nat.reduceLeDiff, Nat.reduceLT, reduceIte, reduceCtorEq, forall_const, imp_self, Int.reduceNeg, Int.reduceLT, Int.reduceLE, Int.reduceGT, Int.reduceGE, Int.reduceAdd, Int.reduceSub, Int.reduceMul, Int.reduceToNat, Int.reduceEq, ne_eq, eq_self]
    exact ⟨_, _, rfl, by simp, rfl, _, rfl, rfl, by rw [← e]; rfl⟩

set_option maxRecDepth 20000 in
theorem run17 (hC : Lib26B C) (s : List UInt8) (hs : s.length ≤ 1000) : runV T C fi17 [.str s] [] = some (.tuple [.int .u8 (if isTx s = true then parseR s else 0 : Nat), errD (if isTx s = true then 0 else 3)], []) := by
  rw [e_run _ _ _ rfl]
  have lp := loop17 hC s hs
  have r8 : s.length ≤ 140737488355328 := by omega
  simp only [fi17, Tryd.f17, an17, r8, AL, T3, T5, T9, T33, T59, T102, EL, e_finWf, e_finWt, e_finMN, e_finMX, retM, meltV, tupV, D.asBox, D.row1, D.freeR, D.freeO, List.replicate_succ, stepD, accs, accP, accW, simpleOp, isAl, isExt, flipD, D.fresh1, D.row, D.plain, D.plain.plainL, St.close, St.close1, St.borrow, retV, resV, resL, outCL, outC, outL, outD, wantedV, opV, An.mid, thawV, St.settle, D.plainU, prune, envOf, get, put, eval, evalT, nz, argsV, capsV, ofV, binV, binV.aggV, unV, intV, eqOp, isConst, natV, optV, loadV, loadC, storeV, setC, St.at_, partV, partTy, indexAddrV, fieldAddrV, sliceV, sliceV.rowSl, sliceV.strSl, bounds, cutP, builtinV, lenV, maxL, maxV, appendV, St.elems, roomy, rowOf, rowS, isStr, esz, tdOf, convV, buildV, fillV, partsV, okParts, fillL, D.whole, D.demoteC, D.demote, demoteL, D.global, D.flat, D.leaf, D.cells, TI.agg, TD.rowish, callOpV, moveL, CC, keepB, St.borrowL, St.borrow, D.isLsl, adoptR, adoptC, adoptCL, adoptL, adopt, List.toArray, Array.toList, Nat.reduceEqDiff, Nat.reduceAdd, Nat.reduceSub, Nat.reduceMul, Nat.reduceLeDiff, Nat.reduceLT, reduceIte, reduceCtorEq, forall_const, imp_self, Int.reduceNeg, Int.reduceLT, Int.reduceLE, Int.reduceGT, Int.reduceGE, Int.reduceAdd, Int.reduceSub, Int.reduceMul, Int.reduceToNat, Int.reduceEq, ne_eq, eq_self]
  refine' in_loop (c' := lp17_0) (fin T _ _ _) ?h rfl ?q
  case h =>
    refine lp _ ?_
    simp only [an17, ren_map, toks_map, boxes_map, st17, AL, An.at_, tidyV, tidyW, tidyB, tidyT, sift, envBoxes, envToks, conToks, D.toks, D.tok1, toksL, D.boxes, D.box1, boxesL, memN, posN, renE, D.ren, D.ren1, renL, renB, St.content, St.boxOk, St.tokOk, trues, T3, T5, T9, T33, T59, T102, EL, e_finWf, e_finWt, e_finMN, e_finMX, retM, meltV, tupV, D.asBox, D.row1, D.freeR, D.freeO, List.replicate_succ, stepD, accs, accP, accW, simpleOp, isAl, isExt, flipD, D.fresh1, D.row, D.plain, D.plain.plainL, St.close, St.close1, St.borrow, retV, resV, resL, outCL, outC, outL, outD, wantedV, opV, An.mid, thawV, St.settle, D.plainU, prune, envOf, get, put, eval, evalT, nz, argsV, capsV, ofV, binV, binV.aggV, unV, intV, eqOp, isConst, natV, optV, loadV, loadC, storeV, setC, St.at_, partV, partTy, indexAddrV, fieldAddrV, sliceV, sliceV.rowSl, sliceV.strSl, bounds, cutP, builtinV, lenV, maxL, maxV, appendV, St.elems, roomy, rowOf, rowS, isStr, esz, tdOf, convV, buildV, fillV, partsV, okParts, fillL, D.whole, D.demoteC, D.demote, demoteL, D.global, D.flat, D.leaf, D.cells, TI.agg, TD.rowish, callOpV, moveL, CC, keepB, St.borrowL, St.borrow, D.isLsl, adoptR, adoptC, adoptCL, adoptL, adopt, List.toArray, Array.toList, Nat.reduceEqDiff, Nat.reduceAdd, Nat.reduceSub, Nat.reduceMul, Nat.reduceLeDiff, Nat.reduceLT, reduceIte, reduceCtorEq, forall_const, imp_self, Int.reduceNeg, Int.reduceLT, Int.reduceLE, Int.reduceGT, Int.reduceGE, Int.reduceAdd, Int.reduceSub, Int.reduceMul, Int.reduceToNat, Int.reduceEq, ne_eq, eq_self]
    all_goals rfl
  rintro x st' ⟨rfl, ρ, rfl, h0, h4⟩
  have c1 := hC.tx (parseR s) (by have := parseR_lt s; omega)
  rw [Nat.mod_eq_of_lt (parseR_lt s)] at c1
  cases ht : isTx s with
  | true =>
    have s1 : strV .neq (textS (parseR s)) s = some (.bool false) := by
      show some (D.bool (!(textS (parseR s) == s))) = _
      rw [show (textS (parseR s) == s) = true from ht]; rfl
    rw [if_pos rfl, if_pos rfl, errD_zero]
    simp only [h0, h4, c1, s1, T3, T5, T9, T33, T59, T102, EL, e_finWf, e_finWt, e_finMN, e_finMX, retM, meltV, tupV, D.asBox, D.row1, D.freeR, D.freeO, List.replicate_succ, stepD, accs, accP, accW, simpleOp, isAl, isExt, flipD, D.fresh1, D.row, D.plain, D.plain.plainL, St.close, St.close1, St.borrow, retV, resV, resL, outCL, outC, outL, outD, wantedV, opV, An.mid, thawV, St.settle, D.plainU, prune, envOf, get, put, eval, evalT, nz, argsV, capsV, ofV, binV, binV.aggV, unV, intV, eqOp, isConst, natV, optV, loadV, loadC, storeV, setC, St.at_, partV, partTy, indexAddrV, fieldAddrV, sliceV, sliceV.rowSl, sliceV.strSl, bounds, cutP, builtinV, lenV, maxL, maxV, appendV, St.elems, roomy, rowOf, rowS, isStr, esz, tdOf, convV, buildV, fillV, partsV, okParts, fillL, D.whole, D.demoteC, D.demote, demoteL, D.global, D.flat, D.leaf, D.cells, TI.agg, TD.rowish, callOpV, moveL, CC, keepB, St.borrowL, St.borrow, D.isLsl, adoptR, adoptC, adoptCL, adoptL, adopt, List.toArray, Array.toList, Nat.reduceEqDiff, Nat.reduceAdd, Nat.reduceSub, Nat.reduceMul, Nat.reduceLeDiff, Nat.reduceLT, reduceIte, reduceCtorEq, forall_const, imp_self, Int.reduceNeg, Int.reduceLT, Int.reduceLE, Int.reduceGT, Int.reduceGE, Int.reduceAdd, Int.reduceSub, Int.reduceMul, Int.reduceToNat, Int.reduceEq, ne_eq, eq_self]
  | false =>
    have s1 : strV .neq (textS (parseR s)) s = some (.bool true) := by
      show some (D.bool (!(textS (parseR s) == s))) = _
      rw [show (textS (parseR s) == s) = false from ht]; rfl
    rw [if_neg (by decide), if_neg (by decide), errD_pos (by decide)]
    simp only [h0, h4, c1, s1, T3, T5, T9, T33, T59, T102, EL, e_finWf, e_finWt, e_finMN, e_finMX, retM, meltV, tupV, D.asBox, D.row1, D.freeR, D.freeO, List.replicate_succ, stepD, accs, accP, accW, simpleOp, isAl, isExt, flipD, D.fresh1, D.row, D.plain, D.plain.plainL, St.close, St.close1, St.borrow, retV, resV, resL, outCL, outC, outL, outD, wantedV, opV, An.mid, thawV, St.settle, D.plainU, prune, envOf, get, put, eval, evalT, nz, argsV, capsV, ofV, binV, binV.aggV, unV, intV, eqOp, isConst, natV, optV, loadV, loadC, storeV, setC, St.at_, partV, partTy, indexAddrV, fieldAddrV, sliceV, sliceV.rowSl, sliceV.strSl, bounds, cutP, builtinV, lenV, maxL, maxV, appendV, St.elems, roomy, rowOf, rowS, isStr, esz, tdOf, convV, buildV, fillV, partsV, okParts, fillL, D.whole, D.demoteC, D.demote, demoteL, D.global, D.flat, D.leaf, D.cells, TI.agg, TD.rowish, callOpV, moveL, CC, keepB, St.borrowL, St.borrow, D.isLsl, adoptR, adoptC, adoptCL, adoptL, adopt, List.toArray, Array.toList, Nat.reduceEqDiff, Nat.reduceAdd, Nat.reduceSub, Nat.reduceMul, Nat.reduceLeDiff, Nat.reduceLT, reduceIte, reduceCtorEq, forall_const, imp_self, Int.reduceNeg, Int.reduceLT, Int.reduceLE, Int.reduceGT, Int.reduceGE, Int.reduceAdd, Int.reduceSub, Int.reduceMul, Int.reduceToNat, Int.reduceEq, ne_eq, eq_self]
    rfl
theorem c17 (hC : Lib26B C) (s : List UInt8) (hs : s.length ≤ 1000) : C 17 [.str s] [] = some (.tuple [.int .u8 (if isTx s = true then parseR s else 0 : Nat), errD (if isTx s = true then 0 else 3)], []) := hC.fPA _ _ _ (run17 hC s hs)

structure Known26 (C : Callees) : Prop extends Lib26B C where
  fSURE : Has T C 14 fi14
  num : ∀ n B, C 20 [errD n] B = some (.int .i64 n, B)

theorem num26 (hC : Known26 C) (n : Nat) (hn : n ≠ 0) (B : Hp) : C 20 [.iface 102 (.int .i64 n)] B = some (.int .i64 n, B) := by
  have := hC.num n B
  rw [errD_pos hn] at this; exact this

set_option maxRecDepth 20000 in
theorem run14 (hC : Known26 C) : runV T C fi14 [] [] = some (.bool true, []) := by
  rw [e_run _ _ _ rfl]
  have c1 := c15 hC.toLib26B 3 (by decide)
  have c2 := c17 hC.toLib26B [103, 97] (by decide)
  have c3 := c17 hC.toLib26B [119, 114] (by decide)
  have c4 := c15 hC.toLib26B 64 (by decide)
  have c5 := c19 hC.toLib26A 63 (by decide) []
  have n3 := num26 hC 3 (by decide) []
  have n1 := num26 hC 1 (by decide) []
  rw [show (if 3 < 64 then textS 3 else []) = [114, 119] by decide +kernel, if_pos (by decide), errD_zero] at c1
  rw [show isTx [103, 97] = true by decide +kernel, if_pos rfl, if_pos rfl, show parseR [103, 97] = 48 by decide +kernel, errD_zero] at c2
  rw [show isTx [119, 114] = false by decide +kernel, if_neg (by decide), if_neg (by decide), errD_pos (by decide)] at c3
  rw [if_neg (by decide), if_neg (by decide), errD_pos (by decide)] at c4
  have c1 : C 15 [.int .u8 3] [] = some (.tuple [.str [114, 119], .nili], []) := c1
  have c2 : C 17 [.str [103, 97]] [] = some (.tuple [.int .u8 48, .nili], []) := c2
  have c3 : C 17 [.str [119, 114]] [] = some (.tuple [.int .u8 0, .iface 102 (.int .i64 3)], []) := c3
  have c4 : C 15 [.int .u8 64] [] = some (.tuple [.str [], .iface 102 (.int .i64 1)], []) := c4
  have c5 : C 19 [.int .u8 63] [] = some (.vec 1 [.int .u8 1, .int .u8 2, .int .u8 4, .int .u8 8, .int .u8 16, .int .u8 32] .fresh, []) := c5
  have n3 : C 20 [.iface 102 (.int .i64 3)] [] = some (.int .i64 3, []) := n3
  have n1 : C 20 [.iface 102 (.int .i64 1)] [] = some (.int .i64 1, []) := n1
  simp only [fi14, Tryd.f14, an14, c1, c2, c3, c4, c5, n1, n3, strV, T3, T5, T9, T24, T33, EL, e_finWf, e_finWt, e_finMN, e_finMX, retM, meltV, tupV, D.asBox, D.row1, D.freeR, D.freeO, List.replicate_succ, stepD, accs, accP, accW, simpleOp, isAl, isExt, flipD, D.fresh1, D.row, D.plain, D.plain.plainL, St.close, St.close1, St.borrow, retV, resV, resL, outCL, outC, outL, outD, wantedV, opV, An.mid, thawV, St.settle, D.plainU, prune, envOf, get, put, eval, evalT, nz, argsV, capsV, ofV, binV, binV.aggV, unV, intV, eqOp, isConst, natV, optV, loadV, loadC, storeV, setC, St.at_, partV, partTy, indexAddrV, fieldAddrV, sliceV, sliceV.rowSl, sliceV.strSl, bounds, cutP, builtinV, lenV, maxL, maxV, appendV, St.elems, roomy, rowOf, rowS, isStr, esz, tdOf, convV, buildV, fillV, partsV, okParts, fillL, D.whole, D.demoteC, D.demote, demoteL, D.global, D.flat, D.leaf, D.cells, TI.agg, TD.rowish, callOpV, moveL, CC, keepB, St.borrowL, St.borrow, D.isLsl, adoptR, adoptC, adoptCL, adoptL, adopt, List.toArray, Array.toList, Nat.reduceEqDiff, Nat.reduceAdd, Nat.reduceSub, Nat.reduceMul, Nat.reduceLeDiff, Nat.reduceLT, reduceIte, reduceCtorEq, forall_const, imp_self, Int.reduceNeg, Int.reduceLT, Int.reduceLE, Int.reduceGT, Int.reduceGE, Int.reduceAdd, Int.reduceSub, Int.reduceMul, Int.reduceToNat, Int.reduceEq, ne_eq, eq_self]
  rfl
theorem c14 (hC : Known26 C) : C 14 [] [] = some (.bool true, []) := hC.fSURE _ _ _ (run14 hC)

end Go.Proofs.YtbbbhalmlboapaaDoor.V
