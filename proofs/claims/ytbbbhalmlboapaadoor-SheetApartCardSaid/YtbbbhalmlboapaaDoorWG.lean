/-
Layer 5: sure.
-/
import Derived.Test.YtbbbhalmlboapaaDoorWF
namespace Go.Proofs.YtbbbhalmlboapaaDoor.V
open Go Go.RowKit
set_option linter.unusedSimpArgs false
set_option linter.unusedVariables false

/-! warren/warrenlaw05.sure -/
def an53 : An := ⟨fun _ => .none, fun | 12 => 1 | 14 => 1 | 24 => 1 | _ => 0, fun _ => false, fun _ => .none⟩
noncomputable def fi53 : FI := ⟨0, 76, Tryd.f53.body.getD .skip, Tryd.f53.results.toList, an53, false, false, false⟩
theorem ok53 : FnOk Tryd.prog 53 fi53 := ⟨⟨Tryd.f53, Tryd.func53, by kernel_rfl, rfl, rfl, rfl⟩, by decide, by kernel_rfl, fun h => by cases h⟩
structure Known05 (C : Callees) : Prop extends Lib05 C where
  f53 : Has T C 53 fi53
  num : ∀ (n : Nat) (B : Hp), C 59 [errD n] B = some (.int .i64 n, B)

variable {C : Callees}

theorem num0 (hC : Known05 C) (B : Hp) : C 59 [.nili] B = some (.int .i64 0, B) := hC.num 0 B
theorem num1 (hC : Known05 C) (B : Hp) : C 59 [.iface 102 (.int .i64 1)] B = some (.int .i64 1, B) := hC.num 1 B
theorem num3 (hC : Known05 C) (B : Hp) : C 59 [.iface 102 (.int .i64 3)] B = some (.int .i64 3, B) := hC.num 3 B
theorem num4 (hC : Known05 C) (B : Hp) : C 59 [.iface 102 (.int .i64 4)] B = some (.int .i64 4, B) := hC.num 4 B

theorem opL_pag (hC : Lib05 C) {k : UInt8} {l : List UInt8} (hk : kindS k.toNat = true) (hl : l.length ≤ 504) (B : Hp) : C 56 [.vec 1 ((pag k l).map byteD) .none] B = some (.tuple [.int .u8 k.toNat, .vec 1 (l.map byteD) .fresh, .nili], B) := by
  have := opL_ok hC (pag k l) (pag_len hl) (isL_pag k l) (okO_pag hk hl) B
  rw [bO_pag0, ldO_pag k hl] at this
  exact this

set_option maxRecDepth 20000 in
set_option maxHeartbeats 2000000 in
theorem run53 (hC : Known05 C) : runV T C fi53 [] [] = some (.bool true, []) := by
  rw [e_run _ _ _ rfl]
  have hL := hC.toLib05
  have c1 : C 54 [.int .u8 1, .vec 1 [.int .u8 120] .none] [] = some (.tuple [.vec 1 ((pag 1 [120]).map byteD) .box, .nili], []) := se_ok hL 1 [120] (by decide) (by decide)
  have c2 := opL_pag hL (k := 1) (l := [120]) (by decide) (by decide)
  have c3 := opL_sum hL (zers 512) (zers_len 512) isL_zeros
  have c4 : ∀ B, C 58 [.int .i64 500] B = some (.tuple [.int .i64 4, .nili], B) := rm_ok hL 500 (by decide)
  have c5 : ∀ B, C 60 [.vec 1 [] .none] B = some (.bool true, B) := c60 hL [] (by decide)
  have c6 := c60 hL (pag 1 [120]) (by rw [pag_len (by decide)]; decide)
  rw [pag_blank (k := 1) (by decide) [120]] at c6
  have n4 := num4 hC
  have r0 := rep_bytes 512
  have hlen : (pag 1 [120]).length = 512 := pag_len (by decide)
  have l1 : ((pag 1 [120]).map byteD).length = 512 := by rw [List.length_map, hlen]
  have t1 : (pag 1 [120]).take 512 = pag 1 [120] := List.take_of_length_le (by omega)
  have ne1 : ((pag 1 [120]).map byteD).isEmpty = false := by
    cases hp : pag 1 [120] with
    | nil => rw [hp] at hlen; cases hlen
    | cons _ _ => rfl
  have b1 : [(120 : UInt8)].map byteD = [.int .u8 120] := rfl
  have z1 : ((1 : UInt8).toNat : Int) = 1 := rfl
  rw [z1, b1] at c2
  have y2 : strV .eql [120] [120] = some (.bool true) := by kernel_rfl
  have y1 : bytesOf [.int .u8 120] = some [120] := by kernel_rfl
  simp only [fi53, Tryd.f53, an53, h512, y1, y2, c1, c2, c3, c4, c5, c6, n4, r0, hlen, l1, t1, ne1, glob_bytes, leaf_bytes, plain_bytes, zers_len, -List.reduceReplicate, T3, T4, T5, T9, T24, T33, EL, e_finWf, e_finWt, e_finMN, e_finMX, retM, meltV, tupV, D.asBox, D.row1, D.freeR, D.freeO, stepD, accs, accP, accW, simpleOp, isAl, isExt, flipD, D.fresh1, D.row, D.plain, D.plain.plainL, St.close, St.close1, St.borrow, retV, resV, resL, outCL, outC, outL, outD, wantedV, opV, An.mid, thawV, St.settle, D.plainU, prune, envOf, get, put, eval, evalT, nz, argsV, capsV, ofV, binV, binV.aggV, unV, intV, eqOp, isConst, natV, optV, loadV, loadC, storeV, setC, St.at_, partV, partTy, indexAddrV, fieldAddrV, sliceV, sliceV.rowSl, sliceV.strSl, bounds, cutP, builtinV, lenV, maxL, maxV, appendV, St.elems, roomy, rowOf, rowS, isStr, esz, tdOf, convV, buildV, fillV, partsV, okParts, fillL, D.whole, D.demoteC, D.demote, demoteL, D.global, D.flat, D.leaf, D.cells, TI.agg, TD.rowish, callOpV, moveL, CC, keepB, St.borrowL, St.borrow, D.isLsl, adoptR, adoptC, adoptCL, adoptL, adopt, List.toArray, Array.toList, Nat.reduceEqDiff, Nat.reduceAdd, Nat.reduceSub, Nat.reduceMul, Nat.reduceLeDiff, Nat.reduceLT, reduceIte, reduceCtorEq, forall_const, imp_self, Int.reduceNeg, Int.reduceLT, Int.reduceLE, Int.reduceGT, Int.reduceGE, Int.reduceAdd, Int.reduceSub, Int.reduceMul, Int.reduceToNat, Int.reduceEq, ne_eq, eq_self]
  done

theorem c53 (hC : Known05 C) : C 53 [] [] = some (.bool true, []) := hC.f53 _ _ _ (run53 hC)

end Go.Proofs.YtbbbhalmlboapaaDoor.V
