/-
Layer 1: what the callees give; sure; IntsBits.
-/
import Derived.Test.YtploddijjofphaaDoorLC
namespace Go.Proofs.YtploddijjofphaaDoor.V
open Go Go.RowKit
set_option linter.unusedSimpArgs false
set_option linter.unusedVariables false

/-! warren/warrenlaw01.sure -/
def an41 : An := ⟨fun _ => .none, fun _ => 0, fun _ => false, fun _ => .none⟩
noncomputable def fi41 : FI := ⟨0, 69, Tryd.f41.body.getD .skip, Tryd.f41.results.toList, an41, false, false⟩
theorem ok41 : FnOk Tryd.prog 41 fi41 := ⟨⟨Tryd.f41, Tryd.func41, by kernel_rfl, rfl, rfl, rfl⟩, by decide, by kernel_rfl, fun h => by cases h⟩
/-! warren/warrenlaw01.IntsBits -/
def an5 : An := ⟨fun _ => .none, fun _ => 0, fun _ => false, fun _ => .none⟩
noncomputable def fi5 : FI := ⟨3, 111, Tryd.f5.body.getD .skip, Tryd.f5.results.toList, an5, false, false⟩
theorem ok5 : FnOk Tryd.prog 5 fi5 := ⟨⟨Tryd.f5, Tryd.func5, by kernel_rfl, rfl, rfl, rfl⟩, by decide, by kernel_rfl, fun h => by cases h⟩
structure Lib01 (C : Callees) : Prop extends Lib01C C where
  f41 : Has T C 41 fi41
  num : ∀ (n : Nat) (B : Hp), C 34 [errD n] B = some (.int .i64 n, B)

variable {C : Callees}

theorem c28 (hC : Lib01 C) (n b : Int) (hn : -9223372036854775808 ≤ n) (hn2 : n < 9223372036854775808) (B : Hp) : C 28 [.int .i64 n, .int .i64 b] B = some (.tuple [.int .u64 (smallS n b).1, errD (smallS n b).2], B) :=
  hC.f28 _ _ _ (run28 C hC.toLib01C.toLib01B.toLib01A n b hn hn2 B)
theorem c29 (hC : Lib01 C) (n b : Int) (hn : -9223372036854775808 ≤ n) (hn2 : n < 9223372036854775808) (B : Hp) : C 29 [.int .i64 n, .int .i64 b] B = some (.tuple [.int .u64 (smallS n b).1, .int .i64 (smallS n b).2], B) :=
  hC.f29 _ _ _ (run29 C hC.toLib01C.toLib01B.toLib01A n b hn hn2 B)
theorem c30 (hC : Lib01 C) (v : Nat) (b : Int) (hv : v < 18446744073709551616) (B : Hp) : C 30 [.int .u64 v, .int .i64 b] B = some (.tuple [.int .i64 (signedS v b).1, errD (signedS v b).2], B) :=
  hC.f30 _ _ _ (run30 C hC.toLib01C.toLib01B.toLib01A v b hv B)
theorem c31 (hC : Lib01 C) (v : Nat) (b : Int) (hv : v < 18446744073709551616) (B : Hp) : C 31 [.int .u64 v, .int .i64 b] B = some (.tuple [.int .i64 (signedS v b).1, .int .i64 (signedS v b).2], B) :=
  hC.f31 _ _ _ (run31 C hC.toLib01C.toLib01B.toLib01A v b hv B)
theorem c32 (hC : Lib01 C) (v : Nat) (b : Int) (hv : v < 18446744073709551616) (B : Hp) : C 32 [.int .u64 v, .int .i64 b] B = some (.tuple [.int .u64 (upS v b).1, errD (upS v b).2], B) := hC.f32 _ _ _ (run32 C v b hv B)
theorem c33 (hC : Lib01 C) (v : Nat) (b : Int) (hv : v < 18446744073709551616) (B : Hp) : C 33 [.int .u64 v, .int .i64 b] B = some (.tuple [.int .u64 (upS v b).1, .int .i64 (upS v b).2], B) := hC.f33 _ _ _ (run33 C v b hv B)
theorem c40 (hC : Lib01 C) (v : Nat) (hv : v < 18446744073709551616) (B : Hp) : C 40 [.int .u64 v] B = some (.int .i64 (bitsN v : Nat), B) := hC.f40 _ _ _ (run40 C v hv B)
theorem c35 (hC : Lib01 C) (v : Nat) (hv : v < 18446744073709551616) (B : Hp) : C 35 [.int .u64 v] B = some (.int .i64 (onesN v : Nat), B) := hC.f35 _ _ _ (run35 C v hv B)
theorem c36 (hC : Lib01 C) (v : Nat) (hv : v < 18446744073709551616) (B : Hp) : C 36 [.int .u64 v] B = some (.int .i64 (onesN v : Nat), B) := hC.f36 _ _ _ (run36 C v hv B)
theorem c37 (hC : Lib01 C) (v : Nat) (hv : v < 18446744073709551616) (B : Hp) : C 37 [.int .u64 v] B = some (.int .i64 (lowS v), B) := hC.f37 _ _ _ (run37 C hC.toLib01C.toLib01B v hv B)
theorem c38 (hC : Lib01 C) (v : Nat) (hv : v < 18446744073709551616) (B : Hp) : C 38 [.int .u64 v] B = some (.int .i64 (lowS v), B) := hC.f38 _ _ _ (run38 C v hv B)
theorem c39 (hC : Lib01 C) (v : Nat) (hv : v < 18446744073709551616) (B : Hp) : C 39 [.int .u64 v] B = some (.int .i64 ((bitsN v : Int) - 1), B) := hC.f39 _ _ _ (run39 C v hv B)
theorem c52 (hC : Lib01 C) (l : List UInt8) (B : Hp) : C 52 [.vec 1 (l.map byteD) .none] B = some (.tuple [.int .u64 (getS l).1, errD (getS l).2], B) := hC.f52 _ _ _ (run52 C l B)
theorem c53 (hC : Lib01 C) (l : List UInt8) (hl : l.length ≤ 9000000000000000000) (B : Hp) : C 53 [.vec 1 (l.map byteD) .none] B = some (.tuple [.int .u64 (getS l).1, .int .i64 (getS l).2], B) := hC.f53 _ _ _ (run53 C l hl B)
theorem c54 (hC : Lib01 C) (l : List UInt8) (v : Nat) (n : Int) (hv : v < 18446744073709551616) (hl : l.length ≤ 1000) (B : Hp) : C 54 [.vec 1 (l.map byteD) .none, .int .u64 v, .int .i64 n] B = some (.vec 1 ((putS l v n).map byteD) .fresh, B) :=
  hC.f54 _ _ _ (run54 C hC.toLib01C l v n hv hl B)
theorem c55 (hC : Lib01 C) (l : List UInt8) (v : Nat) (n : Int) (hv : v < 18446744073709551616) (hl : l.length ≤ 1000) (B : Hp) : C 55 [.vec 1 (l.map byteD) .none, .int .u64 v, .int .i64 n] B = some (.vec 1 ((putS l v n).map byteD) .fresh, B) :=
  hC.f55 _ _ _ (run55 C l v n hv hl B)

set_option maxRecDepth 10000 in
set_option maxHeartbeats 2000000 in
theorem run41 (hC : Lib01 C) (B : Hp) : runV T C fi41 [] B = some (.bool true, B) := by
  rw [e_run _ _ _ rfl]
  have g1 : ∀ B, C 30 [.int .u64 255, .int .i64 8] B = some (.tuple [.int .i64 (-1), .nili], B) := c30 hC 255 8 (by decide)
  have g2 : ∀ B, C 52 [.vec 1 [.int .u8 1, .int .u8 2] .none] B = some (.tuple [.int .u64 258, .nili], B) := c52 hC [1, 2]
  have g3 : ∀ B, C 32 [.int .u64 9, .int .i64 3] B = some (.tuple [.int .u64 16, .nili], B) := c32 hC 9 3 (by decide)
  have g4 : ∀ B, C 28 [.int .i64 256, .int .i64 8] B = some (.tuple [.int .u64 0, errD 2], B) := c28 hC 256 8 (by decide) (by decide)
  have g5 : ∀ B, C 34 [errD 2] B = some (.int .i64 2, B) := hC.num 2
  have g6 : ∀ B, C 35 [.int .u64 7] B = some (.int .i64 3, B) := fun B => (c35 hC 7 (by decide) B).trans (by rw [show onesN 7 = 3 by rw [ones_step, ones_step (7 / 2), ones_step (7 / 2 / 2), show 7 / 2 / 2 / 2 = 0 from rfl, ones_zero]]; rfl)
  have g7 : ∀ B, C 37 [.int .u64 12] B = some (.int .i64 2, B) := fun B => (c37 hC 12 (by decide) B).trans (by rw [show lowS 12 = 2 by unfold lowS; rw [ctz_even (by decide) (by decide), ctz_even (by decide) (by decide), ctz_odd (by decide)]; rfl])
  have g8 : ∀ B, C 39 [.int .u64 12] B = some (.int .i64 3, B) := fun B => (c39 hC 12 (by decide) B).trans (by rw [show bitsN 12 = 4 by rw [bitsN_half (by decide), bitsN_half (by decide), bitsN_half (by decide), bitsN_half (by decide)]; rfl]; rfl)
  have g9 : ∀ B, C 39 [.int .u64 0] B = some (.int .i64 (-1), B) := c39 hC 0 (by decide)
  simp only [fi41, Tryd.f41, an41, g1, g2, g3, g4, g5, g6, g7, g8, g9, errD_dem, errD_demC, errD_bor, errD_out, errD_outC, errD_ado, errD_adoC, errD_adoR, errD_plain, errD_close, errD_lsl, errD_fresh, implies_true, false_implies, D.vec.injEq, adopt.eq_1, adopt.eq_2, adoptC.eq_1, adoptC.eq_2, adoptR.eq_1, adoptR.eq_2, outD.eq_1, outD.eq_2, outD.eq_3, outC.eq_1, outC.eq_2, D.demote.eq_1, D.demote.eq_2, D.demoteC.eq_1, D.demoteC.eq_2, St.borrow.eq_1, St.borrow.eq_2, D.isLsl.eq_1, D.isLsl.eq_2, D.fresh1.eq_1, D.fresh1.eq_2, St.close.eq_1, St.close.eq_2, T2, T3, T5, T30, T49, T64, e_seq, e_region, e_dyn, e_dynS, stepD, accs, accP, accW, simpleOp, isAl, isExt, flipD, D.row, D.plain, D.plain.plainL, St.close1, List.flatten_cons, List.flatten_nil, e_block, e_cond, e_ret, e_skip, e_exit, e_plain, e_guard, e_nil, e_op, e_ifT, e_ifF, e_true, e_false, e_loop, e_l, e_top, e_seqN, e_seqE, e_seqR, e_blockN, e_blockR, e_blockE,
    begin_f, begin_t, end_f, e_finN, e_finX, e_finR, retV, resV, resL, outCL, outL, wantedV, opV, An.mid, thawV, D.plainU, prune, List.map_cons, List.map_nil, envOf, get, put, eval, evalT, nz, argsV, capsV, ofV, nbeq, nble, binV, binV.aggV, unV, intV, eqOp, isConst, natV, optV, loadV, loadC, storeV, setC, St.at_, partV, partTy, indexAddrV, fieldAddrV, sliceV, sliceV.rowSl, sliceV.strSl, bounds, cutP,
    builtinV, lenV, maxL, maxV, appendV, St.elems, roomy, rowOf, rowS, isStr, esz, tdOf, convV, buildV, fillV, partsV, okParts, fillL, D.whole, demoteL, D.global, D.flat, D.leaf, D.cells, TI.agg, TD.rowish, callOpV, moveL, CC, keepB, St.borrowL, adoptCL, adoptL, 
    List.toArray, Array.toList, List.length_cons, List.length_nil, List.length_map, List.length_append, List.length_replicate, List.replicate_succ, List.replicate_zero, List.replicate_one, ← List.map_take, ← List.map_drop, List.isEmpty_cons, List.isEmpty_nil, List.drop_zero, List.take_succ_cons, List.take_zero, List.take_nil, List.drop_succ_cons, List.drop_nil, Nat.zero_le, Nat.le_refl, Nat.sub_zero, List.getElem?_cons_succ, List.getElem?_cons_zero, List.getElem?_nil, List.any_cons, List.any_nil, List.all_cons, List.all_nil, List.append_nil, List.nil_append, List.cons_append, List.set_cons_zero, List.set_cons_succ,
    cond_true, cond_false, decide_true, decide_false, Bool.true_and, Bool.and_true, Bool.false_and, Bool.and_false, Bool.true_or, Bool.or_true, Bool.false_or, Bool.or_false, Bool.not_true, Bool.not_false, Bool.and_self, Bool.or_self, bT, bF, ieq, ine, decide_eq_true_eq, decide_not,
    Nat.reduceEqDiff, Nat.reduceAdd, Nat.reduceSub, Nat.reduceMul, Nat.reduceLeDiff, Nat.reduceLT, Nat.zero_add, Nat.add_zero, Option.getD_some, Option.getD_none, Option.isSome_some, Option.isSome_none, reduceIte, reduceCtorEq, and_self, and_true, true_and, not_true_eq_false, not_false_eq_true, false_imp_iff, forall_const, imp_self,
    Int.reduceNeg, Int.reduceLT, Int.reduceLE, Int.reduceGT, Int.reduceGE, Int.reduceAdd, Int.reduceSub, Int.reduceMul, Int.reduceToNat, Int.reduceEq, ne_eq, eq_self, beq_self_eq_true]

theorem c41 (hC : Lib01 C) (B : Hp) : C 41 [] B = some (.bool true, B) := hC.f41 _ _ _ (run41 hC B)

set_option maxRecDepth 10000 in
set_option maxHeartbeats 4000000 in
theorem run5 (hC : Lib01 C) (n : Int) (v : Nat) (b : Int) (hn : -9223372036854775808 ≤ n) (hn2 : n < 9223372036854775808) (hv : v < 18446744073709551616) (B : Hp) :
    runV T C fi5 [.int .i64 n, .int .u64 v, .int .i64 b] B = some (.bool true, B) := by
  rw [e_run _ _ _ rfl]
  have g1 := c28 hC n b hn hn2
  have g2 := c29 hC n b hn hn2
  have g3 := c30 hC v b hv
  have g4 := c31 hC v b hv
  have g5 := c32 hC v b hv
  have g6 := c33 hC v b hv
  have g7 := c35 hC v hv
  have g8 := c36 hC v hv
  have g9 := c37 hC v hv
  have g10 := c38 hC v hv
  have g11 := c39 hC v hv
  have g12 := c40 hC v hv
  have g13 := hC.num
  have g14 := c41 hC
  have hb := bitsN_64 hv
  have g15 : IntKind.i64.wrap ((bitsN v : Int) - 1) = (bitsN v : Int) - 1 := wrapI (by omega) (by omega)
  simp only [fi5, Tryd.f5, an5, g1, g2, g3, g4, g5, g6, g7, g8, g9, g10, g11, g12, g13, g14, g15, errD_dem, errD_demC, errD_bor, errD_out, errD_outC, errD_ado, errD_adoC, errD_adoR, errD_plain, errD_close, errD_lsl, errD_fresh, implies_true, false_implies, D.vec.injEq, adopt.eq_1, adopt.eq_2, adoptC.eq_1, adoptC.eq_2, adoptR.eq_1, adoptR.eq_2, outD.eq_1, outD.eq_2, outD.eq_3, outC.eq_1, outC.eq_2, D.demote.eq_1, D.demote.eq_2, D.demoteC.eq_1, D.demoteC.eq_2, St.borrow.eq_1, St.borrow.eq_2, D.isLsl.eq_1, D.isLsl.eq_2, D.fresh1.eq_1, D.fresh1.eq_2, St.close.eq_1, St.close.eq_2, T2, T3, T49, e_seq, e_region, e_dyn, e_dynS, stepD, accs, accP, accW, simpleOp, isAl, isExt, flipD, D.row, D.plain, D.plain.plainL, St.close1, List.flatten_cons, List.flatten_nil, e_block, e_cond, e_ret, e_skip, e_exit, e_plain, e_guard, e_nil, e_op, e_ifT, e_ifF, e_true, e_false, e_loop, e_l, e_top, e_seqN, e_seqE, e_seqR, e_blockN, e_blockR, e_blockE,
    begin_f, begin_t, end_f, e_finN, e_finX, e_finR, retV, resV, resL, outCL, outL, wantedV, opV, An.mid, thawV, D.plainU, prune, List.map_cons, List.map_nil, envOf, get, put, eval, evalT, nz, argsV, capsV, ofV, nbeq, nble, binV, binV.aggV, unV, intV, eqOp, isConst, natV, optV, loadV, loadC, storeV, setC, St.at_, partV, partTy, indexAddrV, fieldAddrV, sliceV, sliceV.rowSl, sliceV.strSl, bounds, cutP,
    builtinV, lenV, maxL, maxV, appendV, St.elems, roomy, rowOf, rowS, isStr, esz, tdOf, convV, buildV, fillV, partsV, okParts, fillL, D.whole, demoteL, D.global, D.flat, D.leaf, D.cells, TI.agg, TD.rowish, callOpV, moveL, CC, keepB, St.borrowL, adoptCL, adoptL, 
    List.toArray, Array.toList, List.length_cons, List.length_nil, List.length_map, List.length_append, List.length_replicate, List.replicate_succ, List.replicate_zero, List.replicate_one, ← List.map_take, ← List.map_drop, List.isEmpty_cons, List.isEmpty_nil, List.drop_zero, List.take_succ_cons, List.take_zero, List.take_nil, List.drop_succ_cons, List.drop_nil, Nat.zero_le, Nat.le_refl, Nat.sub_zero, List.getElem?_cons_succ, List.getElem?_cons_zero, List.getElem?_nil, List.any_cons, List.any_nil, List.all_cons, List.all_nil, List.append_nil, List.nil_append, List.cons_append, List.set_cons_zero, List.set_cons_succ,
    cond_true, cond_false, decide_true, decide_false, Bool.true_and, Bool.and_true, Bool.false_and, Bool.and_false, Bool.true_or, Bool.or_true, Bool.false_or, Bool.or_false, Bool.not_true, Bool.not_false, Bool.and_self, Bool.or_self, bT, bF, ieq, ine, decide_eq_true_eq, decide_not,
    Nat.reduceEqDiff, Nat.reduceAdd, Nat.reduceSub, Nat.reduceMul, Nat.reduceLeDiff, Nat.reduceLT, Nat.zero_add, Nat.add_zero, Option.getD_some, Option.getD_none, Option.isSome_some, Option.isSome_none, reduceIte, reduceCtorEq, and_self, and_true, true_and, not_true_eq_false, not_false_eq_true, false_imp_iff, forall_const, imp_self,
    Int.reduceNeg, Int.reduceLT, Int.reduceLE, Int.reduceGT, Int.reduceGE, Int.reduceAdd, Int.reduceSub, Int.reduceMul, Int.reduceToNat, Int.reduceEq, ne_eq, eq_self, beq_self_eq_true]

end Go.Proofs.YtploddijjofphaaDoor.V
