/-
Layer 5: a page, opened.
-/
import Derived.Test.YtnhelkclkdfndaaDoorWB
namespace Go.Proofs.YtnhelkclkdfndaaDoor.V
open Go Go.RowKit
set_option linter.unusedSimpArgs false
set_option linter.unusedVariables false

variable {C : Callees}

theorem se_kind (hC : Lib05 C) (k : UInt8) (l : List UInt8) (h : kindS k.toNat = false) (B : Hp) : C 88 [.int .u8 k.toNat, .vec 1 (l.map byteD) .none] B = some (.tuple [.vec 1 [] .fresh, .iface 163 (.int .i64 1)], B) := hC.f88 _ _ _ (run88_kind hC k l h B)
theorem se_long (hC : Lib05 C) (k : UInt8) (l : List UInt8) (h : kindS k.toNat = true) (hl : 504 < l.length) (B : Hp) : C 88 [.int .u8 k.toNat, .vec 1 (l.map byteD) .none] B = some (.tuple [.vec 1 [] .fresh, .iface 163 (.int .i64 5)], B) := hC.f88 _ _ _ (run88_long hC k l h hl B)
theorem se_ok (hC : Lib05 C) (k : UInt8) (l : List UInt8) (h : kindS k.toNat = true) (hl : l.length ≤ 504) : C 88 [.int .u8 k.toNat, .vec 1 (l.map byteD) .none] [] = some (.tuple [.vec 1 ((pag k l).map byteD) .box, .nili], []) := hC.f88 _ _ _ (run88_ok hC k l h hl)

theorem h512 : ((512 : Nat) : Int) = 512 := rfl
def bO (l : List UInt8) (i : Nat) : UInt8 := l.getD i 0
def nO (l : List UInt8) : Nat := (bO l 2).toNat * 256 + (bO l 3).toNat
def okO (l : List UInt8) : Bool := kindS (bO l 0).toNat && (bO l 1 == 0) && decide (nO l ≤ 504) && blankS ((l.take 508).drop (4 + nO l))
def ldO (l : List UInt8) : List UInt8 := (l.take (4 + nO l)).drop 4

theorem bO_get {l : List UInt8} {i : Nat} (h : i < l.length) : (l.map byteD)[i]? = some (.int .u8 (bO l i).toNat) := by
  unfold bO
  rw [List.getElem?_map, List.getD_eq_getElem?_getD, List.getElem?_eq_getElem h]; rfl

theorem shl8 {i : Nat} (h : i < 100000) : shlV .i64 (i : Int) 8 = ((i * 256 : Nat) : Int) := by
  show IntKind.i64.wrap ((i : Int) * 2 ^ (min ((8 : Int).toNat) 64)) = _
  rw [show (2 : Int) ^ (min ((8 : Int).toNat) 64) = 256 by decide, wrapI (by omega) (by omega)]; omega
theorem i64_or8 {x y : Nat} (hx : x < 256) (hy : y < 256) : bitsV .or .i64 ((x * 256 : Nat) : Int) (y : Int) = ((x * 256 + y : Nat) : Int) := by
  have h3 : x * 256 ||| y = x * 256 + y := by
    rw [show x * 256 = x <<< 8 by rw [Nat.shiftLeft_eq], ← Nat.shiftLeft_add_eq_or_of_lt (by omega)]
  have h1 : (BitVec.ofNat 64 (x * 256) ||| BitVec.ofNat 64 y).toNat = x * 256 + y := by
    rw [BitVec.toNat_or, BitVec.toNat_ofNat, BitVec.toNat_ofNat, Nat.mod_eq_of_lt (by omega), Nat.mod_eq_of_lt (by omega), h3]
  show IntKind.i64.wrap (((BitVec.ofInt 64 ((x * 256 : Nat) : Int) ||| BitVec.ofInt 64 (y : Int)).toNat : Nat) : Int) = _
  rw [ofInt_nat, ofInt_nat, h1, wrapI (by omega) (by omega)]

theorem u8_zero (c : UInt8) : (((c.toNat : Nat) : Int) = 0) = ((c == 0) = true) := by
  apply propext
  rw [beq_iff_eq]
  constructor
  · intro h; exact UInt8.toNat_inj.1 (by simpa using h)
  · intro h; subst h; rfl

set_option maxRecDepth 10000 in
theorem run91_len (C : Callees) (l : List UInt8) (h : l.length ≠ 512) (B : Hp) : runV T C fi91 [byV l .none] B = some (.tuple [.int .u8 0, .vec 1 [] .fresh, errD 3], B) := by
  rw [e_run _ _ _ rfl]
  have h1 : ¬ (l.length : Int) = 512 := by omega
  simp only [fi91, Tryd.f91, an91, h1, T3, T4, T5, T68, T163, EL, e_finWf, e_finWt, e_finMN, e_finMX, retM, meltV, tupV, D.asBox, D.row1, D.freeR, D.freeO, List.replicate_succ, stepD, accs, accP, accW, simpleOp, isAl, isExt, flipD, D.fresh1, D.row, D.plain, D.plain.plainL, St.close, St.close1, St.borrow, retV, resV, resL, outCL, outC, outL, outD, wantedV, opV, An.mid, thawV, St.settle, D.plainU, prune, envOf, get, put, eval, evalT, nz, argsV, capsV, ofV, binV, binV.aggV, unV, intV, eqOp, isConst, natV, optV, loadV, loadC, storeV, setC, St.at_, partV, partTy, indexAddrV, fieldAddrV, sliceV, sliceV.rowSl, sliceV.strSl, bounds, cutP, builtinV, lenV, maxL, maxV, appendV, St.elems, roomy, rowOf, rowS, isStr, esz, tdOf, convV, buildV, fillV, partsV, okParts, fillL, D.whole, D.demoteC, D.demote, demoteL, D.global, D.flat, D.leaf, D.cells, TI.agg, TD.rowish, callOpV, moveL, CC, keepB, St.borrowL, St.borrow, D.isLsl, adoptR, adoptC, adoptCL, adoptL, adopt, List.toArray, Array.toList, Nat.reduceEqDiff, Nat.reduceAdd, Nat.reduceSub, Nat.reduceMul, Nat.reduceLeDiff, Nat.reduceLT, reduceIte, reduceCtorEq, forall_const, imp_self, Int.reduceNeg, Int.reduceLT, Int.reduceLE, Int.reduceGT, Int.reduceGE, Int.reduceAdd, Int.reduceSub, Int.reduceMul, Int.reduceToNat, Int.reduceEq, ne_eq, eq_self]
  rfl
set_option maxRecDepth 10000 in
theorem run91_sum (hC : Lib05 C) (l : List UInt8) (h : l.length = 512) (hs : isL l = false) (B : Hp) : runV T C fi91 [byV l .none] B = some (.tuple [.int .u8 0, .vec 1 [] .fresh, errD 4], B) := by
  rw [e_run _ _ _ rfl]
  have h1 : (l.length : Int) = 512 := by omega
  have c1 := c138 hC.toLibCrc l (by omega)
  rw [hs] at c1
  simp only [fi91, Tryd.f91, an91, h1, c1, T3, T4, T5, T68, T163, EL, e_finWf, e_finWt, e_finMN, e_finMX, retM, meltV, tupV, D.asBox, D.row1, D.freeR, D.freeO, List.replicate_succ, stepD, accs, accP, accW, simpleOp, isAl, isExt, flipD, D.fresh1, D.row, D.plain, D.plain.plainL, St.close, St.close1, St.borrow, retV, resV, resL, outCL, outC, outL, outD, wantedV, opV, An.mid, thawV, St.settle, D.plainU, prune, envOf, get, put, eval, evalT, nz, argsV, capsV, ofV, binV, binV.aggV, unV, intV, eqOp, isConst, natV, optV, loadV, loadC, storeV, setC, St.at_, partV, partTy, indexAddrV, fieldAddrV, sliceV, sliceV.rowSl, sliceV.strSl, bounds, cutP, builtinV, lenV, maxL, maxV, appendV, St.elems, roomy, rowOf, rowS, isStr, esz, tdOf, convV, buildV, fillV, partsV, okParts, fillL, D.whole, D.demoteC, D.demote, demoteL, D.global, D.flat, D.leaf, D.cells, TI.agg, TD.rowish, callOpV, moveL, CC, keepB, St.borrowL, St.borrow, D.isLsl, adoptR, adoptC, adoptCL, adoptL, adopt, List.toArray, Array.toList, Nat.reduceEqDiff, Nat.reduceAdd, Nat.reduceSub, Nat.reduceMul, Nat.reduceLeDiff, Nat.reduceLT, reduceIte, reduceCtorEq, forall_const, imp_self, Int.reduceNeg, Int.reduceLT, Int.reduceLE, Int.reduceGT, Int.reduceGE, Int.reduceAdd, Int.reduceSub, Int.reduceMul, Int.reduceToNat, Int.reduceEq, ne_eq, eq_self]
  rfl

set_option maxRecDepth 10000 in
set_option maxHeartbeats 1000000 in
theorem run91_bad (hC : Lib05 C) (l : List UInt8) (h : l.length = 512) (hs : isL l = true) (ho : okO l = false) (B : Hp) : runV T C fi91 [byV l .none] B = some (.tuple [.int .u8 0, .vec 1 [] .fresh, errD 3], B) := by
  rw [e_run _ _ _ rfl]
  have h1 : (l.length : Int) = 512 := by omega
  have c1 := c138 hC.toLibCrc l (by omega)
  rw [hs] at c1
  have g0 := bO_get (l := l) (i := 0) (by omega)
  have g1 := bO_get (l := l) (i := 1) (by omega)
  have g2 := bO_get (l := l) (i := 2) (by omega)
  have g3 := bO_get (l := l) (i := 3) (by omega)
  have hb2 := (bO l 2).toNat_lt
  have hb3 := (bO l 3).toNat_lt
  have w2 : IntKind.i64.wrap ((bO l 2).toNat : Int) = (bO l 2).toNat := wrapI (by omega) (by omega)
  have w3 : IntKind.i64.wrap ((bO l 3).toNat : Int) = (bO l 3).toNat := wrapI (by omega) (by omega)
  have s1 := shl8 (i := (bO l 2).toNat) (by omega)
  have s2 : bitsV .or .i64 (((bO l 2).toNat * 256 : Nat) : Int) ((bO l 3).toNat : Int) = ((nO l : Nat) : Int) := i64_or8 (by omega) (by omega)
  have c2 := c135 hC (bO l 0).toNat
  have z1 := u8_zero (bO l 1)
  unfold okO at ho
  cases e1 : kindS (bO l 0).toNat <;> rw [e1] at c2 ho
  · simp only [fi91, Tryd.f91, an91, h1, c1, g0, g1, g2, g3, w2, w3, s1, s2, c2, T3, T4, T5, T68, T163, EL, e_finWf, e_finWt, e_finMN, e_finMX, retM, meltV, tupV, D.asBox, D.row1, D.freeR, D.freeO, List.replicate_succ, stepD, accs, accP, accW, simpleOp, isAl, isExt, flipD, D.fresh1, D.row, D.plain, D.plain.plainL, St.close, St.close1, St.borrow, retV, resV, resL, outCL, outC, outL, outD, wantedV, opV, An.mid, thawV, St.settle, D.plainU, prune, envOf, get, put, eval, evalT, nz, argsV, capsV, ofV, binV, binV.aggV, unV, intV, eqOp, isConst, natV, optV, loadV, loadC, storeV, setC, St.at_, partV, partTy, indexAddrV, fieldAddrV, sliceV, sliceV.rowSl, sliceV.strSl, bounds, cutP, builtinV, lenV, maxL, maxV, appendV, St.elems, roomy, rowOf, rowS, isStr, esz, tdOf, convV, buildV, fillV, partsV, okParts, fillL, D.whole, D.demoteC, D.demote, demoteL, D.global, D.flat, D.leaf, D.cells, TI.agg, TD.rowish, callOpV, moveL, CC, keepB, St.borrowL, St.borrow, D.isLsl, adoptR, adoptC, adoptCL, adoptL, adopt, List.toArray, Array.toList, Nat.reduceEqDiff, Nat.reduceAdd, Nat.reduceSub, Nat.reduceMul, Nat.reduceLeDiff, Nat.reduceLT, reduceIte, reduceCtorEq, forall_const, imp_self, Int.reduceNeg, Int.reduceLT, Int.reduceLE, Int.reduceGT, Int.reduceGE, Int.reduceAdd, Int.reduceSub, Int.reduceMul, Int.reduceToNat, Int.reduceEq, ne_eq, eq_self]
    rfl
  · cases e2 : bO l 1 == 0 <;> rw [e2] at z1 ho
    · simp only [fi91, Tryd.f91, an91, h1, c1, g0, g1, g2, g3, w2, w3, s1, s2, c2, z1, T3, T4, T5, T68, T163, EL, e_finWf, e_finWt, e_finMN, e_finMX, retM, meltV, tupV, D.asBox, D.row1, D.freeR, D.freeO, List.replicate_succ, stepD, accs, accP, accW, simpleOp, isAl, isExt, flipD, D.fresh1, D.row, D.plain, D.plain.plainL, St.close, St.close1, St.borrow, retV, resV, resL, outCL, outC, outL, outD, wantedV, opV, An.mid, thawV, St.settle, D.plainU, prune, envOf, get, put, eval, evalT, nz, argsV, capsV, ofV, binV, binV.aggV, unV, intV, eqOp, isConst, natV, optV, loadV, loadC, storeV, setC, St.at_, partV, partTy, indexAddrV, fieldAddrV, sliceV, sliceV.rowSl, sliceV.strSl, bounds, cutP, builtinV, lenV, maxL, maxV, appendV, St.elems, roomy, rowOf, rowS, isStr, esz, tdOf, convV, buildV, fillV, partsV, okParts, fillL, D.whole, D.demoteC, D.demote, demoteL, D.global, D.flat, D.leaf, D.cells, TI.agg, TD.rowish, callOpV, moveL, CC, keepB, St.borrowL, St.borrow, D.isLsl, adoptR, adoptC, adoptCL, adoptL, adopt, List.toArray, Array.toList, Nat.reduceEqDiff, Nat.reduceAdd, Nat.reduceSub, Nat.reduceMul, Nat.reduceLeDiff, Nat.reduceLT, reduceIte, reduceCtorEq, forall_const, imp_self, Int.reduceNeg, Int.reduceLT, Int.reduceLE, Int.reduceGT, Int.reduceGE, Int.reduceAdd, Int.reduceSub, Int.reduceMul, Int.reduceToNat, Int.reduceEq, ne_eq, eq_self]
      rfl
    · by_cases e3 : nO l ≤ 504
      · have k3 : ¬ ((nO l : Nat) : Int) > 504 := by omega
        have w4 : IntKind.i64.wrap (4 + ((nO l : Nat) : Int)) = ((4 + nO l : Nat) : Int) := by rw [wrapI (by omega) (by omega)]; omega
        have n4 := nat0 (4 + nO l)
        have l4 : 4 + nO l ≤ 508 := by omega
        have c3 := c139 hC ((l.take 508).drop (4 + nO l)) (by simp; omega)
        have e4 : blankS ((l.take 508).drop (4 + nO l)) = false := by
          rw [decide_eq_true e3] at ho
          simpa using ho
        rw [e4] at c3
        simp only [fi91, Tryd.f91, an91, h512, h, c1, g0, g1, g2, g3, w2, w3, s1, s2, c2, z1, k3, w4, n4, l4, c3, Int.toNat_natCast, T3, T4, T5, T68, T163, EL, e_finWf, e_finWt, e_finMN, e_finMX, retM, meltV, tupV, D.asBox, D.row1, D.freeR, D.freeO, List.replicate_succ, stepD, accs, accP, accW, simpleOp, isAl, isExt, flipD, D.fresh1, D.row, D.plain, D.plain.plainL, St.close, St.close1, St.borrow, retV, resV, resL, outCL, outC, outL, outD, wantedV, opV, An.mid, thawV, St.settle, D.plainU, prune, envOf, get, put, eval, evalT, nz, argsV, capsV, ofV, binV, binV.aggV, unV, intV, eqOp, isConst, natV, optV, loadV, loadC, storeV, setC, St.at_, partV, partTy, indexAddrV, fieldAddrV, sliceV, sliceV.rowSl, sliceV.strSl, bounds, cutP, builtinV, lenV, maxL, maxV, appendV, St.elems, roomy, rowOf, rowS, isStr, esz, tdOf, convV, buildV, fillV, partsV, okParts, fillL, D.whole, D.demoteC, D.demote, demoteL, D.global, D.flat, D.leaf, D.cells, TI.agg, TD.rowish, callOpV, moveL, CC, keepB, St.borrowL, St.borrow, D.isLsl, adoptR, adoptC, adoptCL, adoptL, adopt, List.toArray, Array.toList, Nat.reduceEqDiff, Nat.reduceAdd, Nat.reduceSub, Nat.reduceMul, Nat.reduceLeDiff, Nat.reduceLT, reduceIte, reduceCtorEq, forall_const, imp_self, Int.reduceNeg, Int.reduceLT, Int.reduceLE, Int.reduceGT, Int.reduceGE, Int.reduceAdd, Int.reduceSub, Int.reduceMul, Int.reduceToNat, Int.reduceEq, ne_eq, eq_self]
        rfl
      · have k3 : ((nO l : Nat) : Int) > 504 := by omega
        simp only [fi91, Tryd.f91, an91, h1, c1, g0, g1, g2, g3, w2, w3, s1, s2, c2, z1, k3, T3, T4, T5, T68, T163, EL, e_finWf, e_finWt, e_finMN, e_finMX, retM, meltV, tupV, D.asBox, D.row1, D.freeR, D.freeO, List.replicate_succ, stepD, accs, accP, accW, simpleOp, isAl, isExt, flipD, D.fresh1, D.row, D.plain, D.plain.plainL, St.close, St.close1, St.borrow, retV, resV, resL, outCL, outC, outL, outD, wantedV, opV, An.mid, thawV, St.settle, D.plainU, prune, envOf, get, put, eval, evalT, nz, argsV, capsV, ofV, binV, binV.aggV, unV, intV, eqOp, isConst, natV, optV, loadV, loadC, storeV, setC, St.at_, partV, partTy, indexAddrV, fieldAddrV, sliceV, sliceV.rowSl, sliceV.strSl, bounds, cutP, builtinV, lenV, maxL, maxV, appendV, St.elems, roomy, rowOf, rowS, isStr, esz, tdOf, convV, buildV, fillV, partsV, okParts, fillL, D.whole, D.demoteC, D.demote, demoteL, D.global, D.flat, D.leaf, D.cells, TI.agg, TD.rowish, callOpV, moveL, CC, keepB, St.borrowL, St.borrow, D.isLsl, adoptR, adoptC, adoptCL, adoptL, adopt, List.toArray, Array.toList, Nat.reduceEqDiff, Nat.reduceAdd, Nat.reduceSub, Nat.reduceMul, Nat.reduceLeDiff, Nat.reduceLT, reduceIte, reduceCtorEq, forall_const, imp_self, Int.reduceNeg, Int.reduceLT, Int.reduceLE, Int.reduceGT, Int.reduceGE, Int.reduceAdd, Int.reduceSub, Int.reduceMul, Int.reduceToNat, Int.reduceEq, ne_eq, eq_self]
        rfl

set_option maxRecDepth 10000 in
set_option maxHeartbeats 1000000 in
theorem run91_ok (hC : Lib05 C) (l : List UInt8) (h : l.length = 512) (hs : isL l = true) (ho : okO l = true) (B : Hp) : runV T C fi91 [byV l .none] B = some (.tuple [.int .u8 (bO l 0).toNat, byV (ldO l) .fresh, .nili], B) := by
  rw [e_run _ _ _ rfl]
  have h1 : (l.length : Int) = 512 := by omega
  have c1 := c138 hC.toLibCrc l (by omega)
  rw [hs] at c1
  have g0 := bO_get (l := l) (i := 0) (by omega)
  have g1 := bO_get (l := l) (i := 1) (by omega)
  have g2 := bO_get (l := l) (i := 2) (by omega)
  have g3 := bO_get (l := l) (i := 3) (by omega)
  have hb2 := (bO l 2).toNat_lt
  have hb3 := (bO l 3).toNat_lt
  have w2 : IntKind.i64.wrap ((bO l 2).toNat : Int) = (bO l 2).toNat := wrapI (by omega) (by omega)
  have w3 : IntKind.i64.wrap ((bO l 3).toNat : Int) = (bO l 3).toNat := wrapI (by omega) (by omega)
  have s1 := shl8 (i := (bO l 2).toNat) (by omega)
  have s2 : bitsV .or .i64 (((bO l 2).toNat * 256 : Nat) : Int) ((bO l 3).toNat : Int) = ((nO l : Nat) : Int) := i64_or8 (by omega) (by omega)
  have c2 := c135 hC (bO l 0).toNat
  have z1 := u8_zero (bO l 1)
  unfold okO at ho
  simp only [Bool.and_eq_true, decide_eq_true_eq] at ho
  obtain ⟨⟨⟨e1, e2⟩, e3⟩, e4⟩ := ho
  rw [e1] at c2
  rw [e2] at z1
  have k3 : ¬ ((nO l : Nat) : Int) > 504 := by omega
  have w4 : IntKind.i64.wrap (4 + ((nO l : Nat) : Int)) = ((4 + nO l : Nat) : Int) := by rw [wrapI (by omega) (by omega)]; omega
  have n4 := nat0 (4 + nO l)
  have l4 : 4 + nO l ≤ 508 := by omega
  have l5 : 4 ≤ 4 + nO l := by omega
  have l6 : 4 + nO l ≤ 512 := by omega
  have c3 := c139 hC ((l.take 508).drop (4 + nO l)) (by simp; omega)
  rw [e4] at c3
  have c4 := fun B => hC.clone ((l.take (4 + nO l)).drop 4) B (by simp; omega)
  simp only [fi91, Tryd.f91, an91, h512, h, c1, g0, g1, g2, g3, w2, w3, s1, s2, c2, z1, k3, w4, n4, l4, l5, l6, c3, c4, Int.toNat_natCast, T3, T4, T5, T68, T163, EL, e_finWf, e_finWt, e_finMN, e_finMX, retM, meltV, tupV, D.asBox, D.row1, D.freeR, D.freeO, List.replicate_succ, stepD, accs, accP, accW, simpleOp, isAl, isExt, flipD, D.fresh1, D.row, D.plain, D.plain.plainL, St.close, St.close1, St.borrow, retV, resV, resL, outCL, outC, outL, outD, wantedV, opV, An.mid, thawV, St.settle, D.plainU, prune, envOf, get, put, eval, evalT, nz, argsV, capsV, ofV, binV, binV.aggV, unV, intV, eqOp, isConst, natV, optV, loadV, loadC, storeV, setC, St.at_, partV, partTy, indexAddrV, fieldAddrV, sliceV, sliceV.rowSl, sliceV.strSl, bounds, cutP, builtinV, lenV, maxL, maxV, appendV, St.elems, roomy, rowOf, rowS, isStr, esz, tdOf, convV, buildV, fillV, partsV, okParts, fillL, D.whole, D.demoteC, D.demote, demoteL, D.global, D.flat, D.leaf, D.cells, TI.agg, TD.rowish, callOpV, moveL, CC, keepB, St.borrowL, St.borrow, D.isLsl, adoptR, adoptC, adoptCL, adoptL, adopt, List.toArray, Array.toList, Nat.reduceEqDiff, Nat.reduceAdd, Nat.reduceSub, Nat.reduceMul, Nat.reduceLeDiff, Nat.reduceLT, reduceIte, reduceCtorEq, forall_const, imp_self, Int.reduceNeg, Int.reduceLT, Int.reduceLE, Int.reduceGT, Int.reduceGE, Int.reduceAdd, Int.reduceSub, Int.reduceMul, Int.reduceToNat, Int.reduceEq, ne_eq, eq_self]
  rfl

theorem opL_len (hC : Lib05 C) (l : List UInt8) (h : l.length ≠ 512) (B : Hp) : C 91 [.vec 1 (l.map byteD) .none] B = some (.tuple [.int .u8 0, .vec 1 [] .fresh, .iface 163 (.int .i64 3)], B) := hC.f91 _ _ _ (run91_len C l h B)
theorem opL_sum (hC : Lib05 C) (l : List UInt8) (h : l.length = 512) (hs : isL l = false) (B : Hp) : C 91 [.vec 1 (l.map byteD) .none] B = some (.tuple [.int .u8 0, .vec 1 [] .fresh, .iface 163 (.int .i64 4)], B) := hC.f91 _ _ _ (run91_sum hC l h hs B)
theorem opL_bad (hC : Lib05 C) (l : List UInt8) (h : l.length = 512) (hs : isL l = true) (ho : okO l = false) (B : Hp) : C 91 [.vec 1 (l.map byteD) .none] B = some (.tuple [.int .u8 0, .vec 1 [] .fresh, .iface 163 (.int .i64 3)], B) := hC.f91 _ _ _ (run91_bad hC l h hs ho B)
theorem opL_ok (hC : Lib05 C) (l : List UInt8) (h : l.length = 512) (hs : isL l = true) (ho : okO l = true) (B : Hp) : C 91 [.vec 1 (l.map byteD) .none] B = some (.tuple [.int .u8 (bO l 0).toNat, .vec 1 ((ldO l).map byteD) .fresh, .nili], B) := hC.f91 _ _ _ (run91_ok hC l h hs ho B)

end Go.Proofs.YtnhelkclkdfndaaDoor.V
