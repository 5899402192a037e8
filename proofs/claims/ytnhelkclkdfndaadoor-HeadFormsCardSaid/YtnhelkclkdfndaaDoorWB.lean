/-
Layer 5: a page, sealed.
-/
import Derived.Test.YtnhelkclkdfndaaDoorWA
namespace Go.Proofs.YtnhelkclkdfndaaDoor.V
open Go Go.RowKit
set_option linter.unusedSimpArgs false
set_option linter.unusedVariables false

variable {C : Callees}

def zers (n : Nat) : List UInt8 := List.replicate n 0
theorem zers_len (n : Nat) : (zers n).length = n := by simp [zers]
theorem zers_add (m n : Nat) : zers (m + n) = zers m ++ zers n := by unfold zers; rw [List.replicate_append_replicate]
theorem zers_drop (m n : Nat) : (zers (m + n)).drop m = zers n := by rw [zers_add, List.drop_left' (zers_len m)]
def hdr (k : UInt8) (n : Nat) : List UInt8 := [k, 0] ++ bes n 2
theorem hdr_len (k : UInt8) (n : Nat) : (hdr k n).length = 4 := by unfold hdr; rw [List.length_append, bes_length]; rfl
def frt (k : UInt8) (l : List UInt8) : List UInt8 := hdr k l.length ++ l ++ zers (504 - l.length)
theorem frt_len {k : UInt8} {l : List UInt8} (h : l.length ≤ 504) : (frt k l).length = 508 := by
  unfold frt
  rw [List.length_append, List.length_append, hdr_len, zers_len]; omega
def pag (k : UInt8) (l : List UInt8) : List UInt8 := frt k l ++ bes (moreS 0 (frt k l)) 4
theorem pag_len {k : UInt8} {l : List UInt8} (h : l.length ≤ 504) : (pag k l).length = 512 := by
  unfold pag
  rw [List.length_append, frt_len h, bes_length]

theorem setC_bytes (a b c d : List UInt8) (h : b.length = c.length) : setC ((a ++ b ++ d).map byteD) a.length (c.map byteD) = (a ++ c ++ d).map byteD := by
  have e : ((a.map byteD) ++ (b.map byteD ++ d.map byteD)).drop (a.length + c.length) = d.map byteD := by
    rw [← List.append_assoc]; exact List.drop_left' (by simp [h])
  unfold setC
  simp only [List.map_append, List.append_assoc, List.length_map]
  rw [List.take_left' (by simp), e]

theorem glob_bytes (l : List UInt8) : (l.map byteD).all D.global = true := all_map (fun _ => rfl) l
theorem plain_bytes (l : List UInt8) : (l.map byteD).all D.plain = true := all_map (fun _ => rfl) l
theorem leaf_bytes (l : List UInt8) : (l.map byteD).all D.leaf = true := all_map (fun _ => rfl) l
theorem rep_bytes (n : Nat) : List.replicate n (D.int .u8 0) = (zers n).map byteD := by unfold zers; rw [List.map_replicate]; rfl

set_option maxRecDepth 10000 in
theorem run88_kind (hC : Lib05 C) (k : UInt8) (l : List UInt8) (h : kindS k.toNat = false) (B : Hp) : runV T C fi88 [.int .u8 k.toNat, byV l .none] B = some (.tuple [.vec 1 [] .fresh, errD 1], B) := by
  rw [e_run _ _ _ rfl]
  have c1 := c135 hC k.toNat
  rw [h] at c1
  simp only [fi88, Tryd.f88, an88, c1, T3, T4, T5, T22, T68, T163, T237, EL, e_finWf, e_finWt, e_finMN, e_finMX, retM, meltV, tupV, D.asBox, D.row1, D.freeR, D.freeO, List.replicate_succ, stepD, accs, accP, accW, simpleOp, isAl, isExt, flipD, D.fresh1, D.row, D.plain, D.plain.plainL, St.close, St.close1, St.borrow, retV, resV, resL, outCL, outC, outL, outD, wantedV, opV, An.mid, thawV, St.settle, D.plainU, prune, envOf, get, put, eval, evalT, nz, argsV, capsV, ofV, binV, binV.aggV, unV, intV, eqOp, isConst, natV, optV, loadV, loadC, storeV, setC, St.at_, partV, partTy, indexAddrV, fieldAddrV, sliceV, sliceV.rowSl, sliceV.strSl, bounds, cutP, builtinV, lenV, maxL, maxV, appendV, St.elems, roomy, rowOf, rowS, isStr, esz, tdOf, convV, buildV, fillV, partsV, okParts, fillL, D.whole, D.demoteC, D.demote, demoteL, D.global, D.flat, D.leaf, D.cells, TI.agg, TD.rowish, callOpV, moveL, CC, keepB, St.borrowL, St.borrow, D.isLsl, adoptR, adoptC, adoptCL, adoptL, adopt, List.toArray, Array.toList, Nat.reduceEqDiff, Nat.reduceAdd, Nat.reduceSub, Nat.reduceMul, Nat.reduceLeDiff, Nat.reduceLT, reduceIte, reduceCtorEq, forall_const, imp_self, Int.reduceNeg, Int.reduceLT, Int.reduceLE, Int.reduceGT, Int.reduceGE, Int.reduceAdd, Int.reduceSub, Int.reduceMul, Int.reduceToNat, Int.reduceEq, ne_eq, eq_self]
  rfl
set_option maxRecDepth 10000 in
theorem run88_long (hC : Lib05 C) (k : UInt8) (l : List UInt8) (h : kindS k.toNat = true) (hl : 504 < l.length) (B : Hp) : runV T C fi88 [.int .u8 k.toNat, byV l .none] B = some (.tuple [.vec 1 [] .fresh, errD 5], B) := by
  rw [e_run _ _ _ rfl]
  have c1 := c135 hC k.toNat
  rw [h] at c1
  have h1 : (l.length : Int) > 504 := by omega
  simp only [fi88, Tryd.f88, an88, c1, h1, T3, T4, T5, T22, T68, T163, T237, EL, e_finWf, e_finWt, e_finMN, e_finMX, retM, meltV, tupV, D.asBox, D.row1, D.freeR, D.freeO, List.replicate_succ, stepD, accs, accP, accW, simpleOp, isAl, isExt, flipD, D.fresh1, D.row, D.plain, D.plain.plainL, St.close, St.close1, St.borrow, retV, resV, resL, outCL, outC, outL, outD, wantedV, opV, An.mid, thawV, St.settle, D.plainU, prune, envOf, get, put, eval, evalT, nz, argsV, capsV, ofV, binV, binV.aggV, unV, intV, eqOp, isConst, natV, optV, loadV, loadC, storeV, setC, St.at_, partV, partTy, indexAddrV, fieldAddrV, sliceV, sliceV.rowSl, sliceV.strSl, bounds, cutP, builtinV, lenV, maxL, maxV, appendV, St.elems, roomy, rowOf, rowS, isStr, esz, tdOf, convV, buildV, fillV, partsV, okParts, fillL, D.whole, D.demoteC, D.demote, demoteL, D.global, D.flat, D.leaf, D.cells, TI.agg, TD.rowish, callOpV, moveL, CC, keepB, St.borrowL, St.borrow, D.isLsl, adoptR, adoptC, adoptCL, adoptL, adopt, List.toArray, Array.toList, Nat.reduceEqDiff, Nat.reduceAdd, Nat.reduceSub, Nat.reduceMul, Nat.reduceLeDiff, Nat.reduceLT, reduceIte, reduceCtorEq, forall_const, imp_self, Int.reduceNeg, Int.reduceLT, Int.reduceLE, Int.reduceGT, Int.reduceGE, Int.reduceAdd, Int.reduceSub, Int.reduceMul, Int.reduceToNat, Int.reduceEq, ne_eq, eq_self]
  rfl

set_option maxRecDepth 20000 in
set_option maxHeartbeats 2000000 in
theorem run88_ok (hC : Lib05 C) (k : UInt8) (l : List UInt8) (h : kindS k.toNat = true) (hl : l.length ≤ 504) : runV T C fi88 [.int .u8 k.toNat, byV l .none] [] = some (.tuple [.vec 1 ((pag k l).map byteD) .box, .nili], []) := by
  rw [e_run _ _ _ rfl]
  have c1 := c135 hC k.toNat
  rw [h] at c1
  have h1 : ¬ (l.length : Int) > 504 := by omega
  have w1 : IntKind.u64.wrap (l.length : Int) = l.length := wrap_u64 (by omega) (by omega)
  have p1 : ∀ B, C 115 [.vec 1 [.int .u8 k.toNat, .int .u8 0] .none, .int .u64 l.length, .int .i64 2] B = some (.vec 1 ((hdr k l.length).map byteD) .fresh, B) := i115 hC.toLibIntC [k, 0] l.length 2 (by omega) (show 2 ≤ 1000 by decide)
  have hs := more_lt 0 (frt k l)
  have c2 := c136 hC.toLibCrc (frt k l) (by rw [frt_len hl]; decide)
  have w2 : IntKind.u64.wrap ((moreS 0 (frt k l) : Nat) : Int) = (moreS 0 (frt k l) : Nat) := wrap_u64 (by omega) (by omega)
  have p2 : ∀ B, C 115 [.vec 1 [] .none, .int .u64 (moreS 0 (frt k l) : Nat), .int .i64 4] B = some (.vec 1 ((bes (moreS 0 (frt k l)) 4).map byteD) .fresh, B) := i115 hC.toLibIntC [] (moreS 0 (frt k l)) 4 (by omega) (by decide)
  have r0 := rep_bytes 512
  have r2 : List.replicate 2 (D.int .u8 0) = [D.int .u8 0, D.int .u8 0] := rfl
  have s1 : setC ((zers 512).map byteD) 0 ((hdr k l.length).map byteD) = (hdr k l.length ++ zers 508).map byteD := by
    have := setC_bytes [] (zers 4) (hdr k l.length) (zers 508) (by rw [zers_len, hdr_len])
    rw [List.nil_append, ← zers_add] at this
    exact this
  have s2 : setC ((hdr k l.length ++ zers 508).map byteD) 4 (l.map byteD) = (frt k l ++ zers 4).map byteD := by
    have := setC_bytes (hdr k l.length) (zers l.length) l (zers (508 - l.length)) (zers_len _)
    rw [List.append_assoc, ← zers_add, show l.length + (508 - l.length) = 508 by omega, hdr_len] at this
    rw [this]
    unfold frt
    rw [List.append_assoc _ _ (zers 4), ← zers_add, show 504 - l.length + 4 = 508 - l.length by omega]
  have hf := frt_len (k := k) hl
  have s3 : setC ((frt k l ++ zers 4).map byteD) 508 ((bes (moreS 0 (frt k l)) 4).map byteD) = (pag k l).map byteD := by
    have := setC_bytes (frt k l) (zers 4) (bes (moreS 0 (frt k l)) 4) [] (by rw [zers_len, bes_length])
    rw [List.append_nil, List.append_nil, hf] at this
    exact this
  have l1 : (zers 512).length = 512 := zers_len _
  have l2 : (hdr k l.length ++ zers 508).length = 512 := by rw [List.length_append, hdr_len, zers_len]
  have l3 : (frt k l ++ zers 4).length = 512 := by rw [List.length_append, hf, zers_len]
  have l4 := pag_len (k := k) hl
  have l5 := hdr_len k l.length
  have l6 := bes_length (moreS 0 (frt k l)) 4
  have l7 : l.length ≤ 508 := by omega
  have e1 : (frt k l ++ zers 4).take 508 = frt k l := List.take_left' hf
  have ne1 : ((pag k l).map byteD).isEmpty = false := by
    cases hp : pag k l with
    | nil => rw [hp] at l4; cases l4
    | cons _ _ => rfl
  have e2 : (pag k l).take 512 = pag k l := List.take_of_length_le (by omega)
  simp only [fi88, Tryd.f88, an88, c1, h1, w1, p1, c2, w2, p2, r0, r2, s1, s2, s3, List.length_map, l1, l2, l3, l4, l5, l6, l7, e1, e2, glob_bytes, leaf_bytes, plain_bytes, ne1, -List.reduceReplicate, T3, T4, T5, T22, T68, T163, T237, EL, e_finWf, e_finWt, e_finMN, e_finMX, retM, meltV, tupV, D.asBox, D.row1, D.freeR, D.freeO, stepD, accs, accP, accW, simpleOp, isAl, isExt, flipD, D.fresh1, D.row, D.plain, D.plain.plainL, St.close, St.close1, St.borrow, retV, resV, resL, outCL, outC, outL, outD, wantedV, opV, An.mid, thawV, St.settle, D.plainU, prune, envOf, get, put, eval, evalT, nz, argsV, capsV, ofV, binV, binV.aggV, unV, intV, eqOp, isConst, natV, optV, loadV, loadC, storeV, St.at_, partV, partTy, indexAddrV, fieldAddrV, sliceV, sliceV.rowSl, sliceV.strSl, bounds, cutP, builtinV, lenV, maxL, maxV, appendV, St.elems, roomy, rowOf, rowS, isStr, esz, tdOf, convV, buildV, fillV, partsV, okParts, fillL, D.whole, D.demoteC, D.demote, demoteL, D.global, D.flat, D.leaf, D.cells, TI.agg, TD.rowish, callOpV, moveL, CC, keepB, St.borrowL, St.borrow, D.isLsl, adoptR, adoptC, adoptCL, adoptL, adopt, List.toArray, Array.toList, Nat.reduceEqDiff, Nat.reduceAdd, Nat.reduceSub, Nat.reduceMul, Nat.reduceLeDiff, Nat.reduceLT, reduceIte, reduceCtorEq, forall_const, imp_self, Int.reduceNeg, Int.reduceLT, Int.reduceLE, Int.reduceGT, Int.reduceGE, Int.reduceAdd, Int.reduceSub, Int.reduceMul, Int.reduceToNat, Int.reduceEq, ne_eq, eq_self]
  done

end Go.Proofs.YtnhelkclkdfndaaDoor.V
