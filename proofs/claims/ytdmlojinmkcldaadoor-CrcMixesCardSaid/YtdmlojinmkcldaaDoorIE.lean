/-
Layer 2: CrcSums.
-/
import Derived.Test.YtdmlojinmkcldaaDoorID
namespace Go.Proofs.YtdmlojinmkcldaaDoor.V
open Go Go.RowKit
set_option linter.unusedSimpArgs false
set_option linter.unusedVariables false

/-! warren/warrenlaw02.CrcSums -/
def an8 : An := ⟨fun _ => .none, fun | 52 => true | _ => false, fun _ => false, fun _ => .none⟩
noncomputable def fi8 : FI := ⟨3, 79, Tryd.f8.body.getD .skip, Tryd.f8.results.toList, an8⟩
theorem ok8 : FnOk Tryd.prog 8 fi8 := ⟨⟨Tryd.f8, Tryd.func8, by kernel_rfl, rfl, rfl, rfl⟩, by decide, by kernel_rfl⟩

/-- Bytes as a law's argument. -/
def ArD (d : D) (l : List UInt8) : Prop := (d = .nilsl ∧ l = []) ∨ d = .vec 1 (l.map byteD) .none

theorem ArD.by {d : D} {l : List UInt8} (h : ArD d l) : ByD d l := h.imp id fun h => ⟨_, h⟩

theorem rep_zero (n : Nat) : List.replicate n (D.int .u8 0) = (List.replicate n 0).map byteD := by
  rw [List.map_replicate]; rfl

def IsOk (C : Callees) : Prop := ∀ (d : D) (l : List UInt8) (B : Hp), ByD d l → l.length ≤ 1000000 → C 43 [d] B = some (.bool (isL l), B)
def RIsOk (C : Callees) : Prop := ∀ (d : D) (l : List UInt8) (B : Hp), ByD d l → l.length ≤ 1000000 → C 44 [d] B = some (.bool (isL l), B)

set_option maxRecDepth 10000 in
set_option maxHeartbeats 4000000 in
theorem run8 (C : Callees) (hk : Known02 C) (his : IsOk C) (hris : RIsOk C) (hs : C 37 [] [] = some (.bool true, [])) (d1 d2 : D) (a b : List UInt8) (hd1 : ArD d1 a) (hd2 : ArD d2 b) (n : Int) (hn0 : -9223372036854775808 ≤ n) (hn1 : n < 9223372036854775808)
    (hla : a.length ≤ 140737488355328) (hlb : b.length ≤ 140737488355328) :
    runV T C fi8 [d1, d2, .int .i64 n] [] = some (.bool true, []) := by
  rw [e_run _ _ _ rfl]
  have hw : IntKind.i64.wrap ((a.length : Int) + (b.length : Int)) = ((a.length + b.length : Nat) : Int) := by rw [wrapI (by omega) (by omega)]; omega
  by_cases hl : a.length + b.length ≤ 600
  · have hgt : ¬ ((a.length + b.length : Nat) : Int) > 600 := by omega
    by_cases hn : n > 2000 ∧ n ≤ 65536
    · obtain ⟨k1, k2⟩ := hn
      rcases hd1 with ⟨rfl, rfl⟩ | rfl <;> rcases hd2 with ⟨rfl, rfl⟩ | rfl <;> try simp only [List.length_nil, Nat.zero_add, Nat.add_zero] at hw hgt
      all_goals simp only [fi8, Tryd.f8, an8, hw, hgt, hs, k1, k2, dp, T3, T4, T5, T25, T34, T57, e_seq, e_region, e_dyn, e_dynS, stepD, accs, accP, accW, simpleOp, isAl, isExt, flipD, D.fresh1, D.row, D.plain, D.plain.plainL, St.close, St.close1, St.borrow, thawV, D.plainU, List.flatten_cons, List.flatten_nil, e_block, e_cond, e_ret, e_skip, e_exit, e_plain, e_guard, e_nil, e_op, e_ifT, e_ifF, e_true, e_false, e_loop, e_l, e_top, e_seqN, e_seqE, e_seqR, e_blockN, e_blockR, e_blockE,
    e_finN, e_finX, e_finR, retV, resV, resL, outCL, outC, outL, outD, wantedV, opV, An.at_, prune, List.map_cons, List.map_nil, envOf, get, put, eval, ofV, nbeq, nble, binV, binV.aggV, unV, intV, eqOp, isConst, natV, optV, loadV, loadC, storeV, setC, St.at_, partV, indexAddrV, fieldAddrV, sliceV, sliceV.rowSl, sliceV.strSl, bounds, cutP,
    builtinV, lenV, maxL, maxV, appendV, St.elems, roomy, rowOf, rowS, isStr, esz, tdOf, convV, buildV, fillV, partsV, okParts, fillL, D.whole, D.demoteC, D.demote, demoteL, D.global, D.leaf, D.cells, TI.agg, TD.rowish, callOpV, CC, keepB, St.borrowL, St.borrow, D.isLsl, adoptR, adoptC, adoptCL, adoptL, adopt, upd,
    List.toArray, Array.toList, List.length_cons, List.length_nil, List.length_map, List.length_append, List.length_replicate, List.replicate_succ, List.replicate_zero, List.replicate_one, ← List.map_take, ← List.map_drop, List.drop_zero, List.take_succ_cons, List.take_zero, List.take_nil, List.drop_succ_cons, List.drop_nil, Nat.zero_le, Nat.le_refl, Nat.sub_zero, List.getElem?_cons_succ, List.getElem?_cons_zero, List.getElem?_nil, List.any_cons, List.any_nil, List.all_cons, List.all_nil, List.append_nil, List.nil_append, List.cons_append, List.set_cons_zero, List.set_cons_succ,
    cond_true, cond_false, decide_true, decide_false, Bool.true_and, Bool.and_true, Bool.false_and, Bool.and_false, Bool.true_or, Bool.or_true, Bool.false_or, Bool.or_false, Bool.not_true, Bool.not_false, Bool.and_self, Bool.or_self, bT, bF, ieq, ine, decide_eq_true_eq, decide_not,
    Nat.reduceEqDiff, Nat.reduceAdd, Nat.reduceSub, Nat.reduceMul, Nat.reduceLeDiff, Nat.reduceLT, Nat.zero_add, Nat.add_zero, Option.getD_some, Option.getD_none, Option.isSome_some, Option.isSome_none, reduceIte, reduceCtorEq, and_self, and_true, true_and, not_true_eq_false, not_false_eq_true, false_imp_iff, forall_const, imp_self,
    Int.reduceNeg, Int.reduceLT, Int.reduceLE, Int.reduceGT, Int.reduceGE, Int.reduceAdd, Int.reduceSub, Int.reduceMul, Int.reduceToNat, Int.reduceEq, ne_eq, eq_self, beq_self_eq_true]
    · have h1 := hk.sum d1 a [] hd1.by (by omega)
      have hs1 := more_lt 0 a
      have h5 := hk.rmore 0 d1 a [] (by omega) hd1.by (by omega)
      have h6 := hk.more (moreS 0 a) d2 b [] hs1 hd2.by (by omega)
      have h7 := hk.rmore (moreS 0 a) d2 b [] hs1 hd2.by (by omega)
      have h8 := his d1 a [] hd1.by (by omega)
      have h9 := hris d1 a [] hd1.by (by omega)
      have h10 : C 40 [.iface 77 (.int .i64 1)] [] = some (.int .i64 1, []) := hk.num 1 []
      have h2 := hk.noughts (moreS 0 a) n [] hs1
      generalize moreS 0 a = s at h1 h2 h5 h6 h7 hs1
      have h5 : C 41 [.int .u32 0, d1] [] = some (.int .u32 (s : Nat), []) := h5
      unfold noughtsD at h2
      by_cases kn : n < 0
      · rw [if_pos (.inl kn)] at h2
        have k1 : ¬ n > 2000 := by omega
        rcases hd1 with ⟨rfl, rfl⟩ | rfl <;> rcases hd2 with ⟨rfl, rfl⟩ | rfl <;> try simp only [List.length_nil, Nat.zero_add, Nat.add_zero] at hw hgt
        all_goals simp only [fi8, Tryd.f8, an8, hw, hgt, hs, k1, kn, h1, h2, h5, h6, h7, h8, h9, h10, dp, T3, T4, T5, T25, T34, T57, e_seq, e_region, e_dyn, e_dynS, stepD, accs, accP, accW, simpleOp, isAl, isExt, flipD, D.fresh1, D.row, D.plain, D.plain.plainL, St.close, St.close1, St.borrow, thawV, D.plainU, List.flatten_cons, List.flatten_nil, e_block, e_cond, e_ret, e_skip, e_exit, e_plain, e_guard, e_nil, e_op, e_ifT, e_ifF, e_true, e_false, e_loop, e_l, e_top, e_seqN, e_seqE, e_seqR, e_blockN, e_blockR, e_blockE,
    e_finN, e_finX, e_finR, retV, resV, resL, outCL, outC, outL, outD, wantedV, opV, An.at_, prune, List.map_cons, List.map_nil, envOf, get, put, eval, ofV, nbeq, nble, binV, binV.aggV, unV, intV, eqOp, isConst, natV, optV, loadV, loadC, storeV, setC, St.at_, partV, indexAddrV, fieldAddrV, sliceV, sliceV.rowSl, sliceV.strSl, bounds, cutP,
    builtinV, lenV, maxL, maxV, appendV, St.elems, roomy, rowOf, rowS, isStr, esz, tdOf, convV, buildV, fillV, partsV, okParts, fillL, D.whole, D.demoteC, D.demote, demoteL, D.global, D.leaf, D.cells, TI.agg, TD.rowish, callOpV, CC, keepB, St.borrowL, St.borrow, D.isLsl, adoptR, adoptC, adoptCL, adoptL, adopt, upd,
    List.toArray, Array.toList, List.length_cons, List.length_nil, List.length_map, List.length_append, List.length_replicate, List.replicate_succ, List.replicate_zero, List.replicate_one, ← List.map_take, ← List.map_drop, List.drop_zero, List.take_succ_cons, List.take_zero, List.take_nil, List.drop_succ_cons, List.drop_nil, Nat.zero_le, Nat.le_refl, Nat.sub_zero, List.getElem?_cons_succ, List.getElem?_cons_zero, List.getElem?_nil, List.any_cons, List.any_nil, List.all_cons, List.all_nil, List.append_nil, List.nil_append, List.cons_append, List.set_cons_zero, List.set_cons_succ,
    cond_true, cond_false, decide_true, decide_false, Bool.true_and, Bool.and_true, Bool.false_and, Bool.and_false, Bool.true_or, Bool.or_true, Bool.false_or, Bool.or_false, Bool.not_true, Bool.not_false, Bool.and_self, Bool.or_self, bT, bF, ieq, ine, decide_eq_true_eq, decide_not,
    Nat.reduceEqDiff, Nat.reduceAdd, Nat.reduceSub, Nat.reduceMul, Nat.reduceLeDiff, Nat.reduceLT, Nat.zero_add, Nat.add_zero, Option.getD_some, Option.getD_none, Option.isSome_some, Option.isSome_none, reduceIte, reduceCtorEq, and_self, and_true, true_and, not_true_eq_false, not_false_eq_true, false_imp_iff, forall_const, imp_self,
    Int.reduceNeg, Int.reduceLT, Int.reduceLE, Int.reduceGT, Int.reduceGE, Int.reduceAdd, Int.reduceSub, Int.reduceMul, Int.reduceToNat, Int.reduceEq, ne_eq, eq_self, beq_self_eq_true]
      · by_cases km : 65536 < n
        · rw [if_pos (.inr km)] at h2
          have k1 : n > 2000 := by omega
          have k2 : ¬ n ≤ 65536 := by omega
          have km : n > 65536 := km
          rcases hd1 with ⟨rfl, rfl⟩ | rfl <;> rcases hd2 with ⟨rfl, rfl⟩ | rfl <;> try simp only [List.length_nil, Nat.zero_add, Nat.add_zero] at hw hgt
          all_goals simp only [fi8, Tryd.f8, an8, hw, hgt, hs, k1, k2, kn, km, h1, h2, h5, h6, h7, h8, h9, h10, dp, T3, T4, T5, T25, T34, T57, e_seq, e_region, e_dyn, e_dynS, stepD, accs, accP, accW, simpleOp, isAl, isExt, flipD, D.fresh1, D.row, D.plain, D.plain.plainL, St.close, St.close1, St.borrow, thawV, D.plainU, List.flatten_cons, List.flatten_nil, e_block, e_cond, e_ret, e_skip, e_exit, e_plain, e_guard, e_nil, e_op, e_ifT, e_ifF, e_true, e_false, e_loop, e_l, e_top, e_seqN, e_seqE, e_seqR, e_blockN, e_blockR, e_blockE,
    e_finN, e_finX, e_finR, retV, resV, resL, outCL, outC, outL, outD, wantedV, opV, An.at_, prune, List.map_cons, List.map_nil, envOf, get, put, eval, ofV, nbeq, nble, binV, binV.aggV, unV, intV, eqOp, isConst, natV, optV, loadV, loadC, storeV, setC, St.at_, partV, indexAddrV, fieldAddrV, sliceV, sliceV.rowSl, sliceV.strSl, bounds, cutP,
    builtinV, lenV, maxL, maxV, appendV, St.elems, roomy, rowOf, rowS, isStr, esz, tdOf, convV, buildV, fillV, partsV, okParts, fillL, D.whole, D.demoteC, D.demote, demoteL, D.global, D.leaf, D.cells, TI.agg, TD.rowish, callOpV, CC, keepB, St.borrowL, St.borrow, D.isLsl, adoptR, adoptC, adoptCL, adoptL, adopt, upd,
    List.toArray, Array.toList, List.length_cons, List.length_nil, List.length_map, List.length_append, List.length_replicate, List.replicate_succ, List.replicate_zero, List.replicate_one, ← List.map_take, ← List.map_drop, List.drop_zero, List.take_succ_cons, List.take_zero, List.take_nil, List.drop_succ_cons, List.drop_nil, Nat.zero_le, Nat.le_refl, Nat.sub_zero, List.getElem?_cons_succ, List.getElem?_cons_zero, List.getElem?_nil, List.any_cons, List.any_nil, List.all_cons, List.all_nil, List.append_nil, List.nil_append, List.cons_append, List.set_cons_zero, List.set_cons_succ,
    cond_true, cond_false, decide_true, decide_false, Bool.true_and, Bool.and_true, Bool.false_and, Bool.and_false, Bool.true_or, Bool.or_true, Bool.false_or, Bool.or_false, Bool.not_true, Bool.not_false, Bool.and_self, Bool.or_self, bT, bF, ieq, ine, decide_eq_true_eq, decide_not,
    Nat.reduceEqDiff, Nat.reduceAdd, Nat.reduceSub, Nat.reduceMul, Nat.reduceLeDiff, Nat.reduceLT, Nat.zero_add, Nat.add_zero, Option.getD_some, Option.getD_none, Option.isSome_some, Option.isSome_none, reduceIte, reduceCtorEq, and_self, and_true, true_and, not_true_eq_false, not_false_eq_true, false_imp_iff, forall_const, imp_self,
    Int.reduceNeg, Int.reduceLT, Int.reduceLE, Int.reduceGT, Int.reduceGE, Int.reduceAdd, Int.reduceSub, Int.reduceMul, Int.reduceToNat, Int.reduceEq, ne_eq, eq_self, beq_self_eq_true]
        · rw [if_neg (by omega)] at h2
          have k1 : ¬ n > 2000 := by omega
          have km : ¬ n > 65536 := km
          have kp : 0 ≤ n := by omega
          have h3 := hk.rmore s (.vec 1 ((List.replicate n.toNat 0).map byteD) .exact) (List.replicate n.toNat 0) [] hs1 (.inr ⟨_, rfl⟩) (by simp; omega)
          have hr : roomy n.toNat 1 = true := by simp only [roomy, nble, decide_eq_true_eq]; omega
          have hro : ∀ m, n.toNat * 1 ≤ 140737488355328 := fun _ => by omega
          have hro2 : n.toNat ≤ 140737488355328 := by omega
          rcases hd1 with ⟨rfl, rfl⟩ | rfl <;> rcases hd2 with ⟨rfl, rfl⟩ | rfl <;> try simp only [List.length_nil, Nat.zero_add, Nat.add_zero] at hw hgt
          all_goals simp only [fi8, Tryd.f8, an8, hw, hgt, hs, k1, kn, km, kp, hr, hro2, rep_zero, Nat.mul_one, h1, h2, h3, h5, h6, h7, h8, h9, h10, dp, T3, T4, T5, T25, T34, T57, e_seq, e_region, e_dyn, e_dynS, stepD, accs, accP, accW, simpleOp, isAl, isExt, flipD, D.fresh1, D.row, D.plain, D.plain.plainL, St.close, St.close1, St.borrow, thawV, D.plainU, List.flatten_cons, List.flatten_nil, e_block, e_cond, e_ret, e_skip, e_exit, e_plain, e_guard, e_nil, e_op, e_ifT, e_ifF, e_true, e_false, e_loop, e_l, e_top, e_seqN, e_seqE, e_seqR, e_blockN, e_blockR, e_blockE,
    e_finN, e_finX, e_finR, retV, resV, resL, outCL, outC, outL, outD, wantedV, opV, An.at_, prune, List.map_cons, List.map_nil, envOf, get, put, eval, ofV, nbeq, nble, binV, binV.aggV, unV, intV, eqOp, isConst, natV, optV, loadV, loadC, storeV, setC, St.at_, partV, indexAddrV, fieldAddrV, sliceV, sliceV.rowSl, sliceV.strSl, bounds, cutP,
    builtinV, lenV, maxL, maxV, appendV, St.elems, rowOf, rowS, isStr, esz, tdOf, convV, buildV, fillV, partsV, okParts, fillL, D.whole, D.demoteC, D.demote, demoteL, D.global, D.leaf, D.cells, TI.agg, TD.rowish, callOpV, CC, keepB, St.borrowL, St.borrow, D.isLsl, adoptR, adoptC, adoptCL, adoptL, adopt, upd,
    List.toArray, Array.toList, List.length_cons, List.length_nil, List.length_map, List.length_append, List.length_replicate, List.replicate_succ, List.replicate_zero, List.replicate_one, ← List.map_take, ← List.map_drop, List.drop_zero, List.take_succ_cons, List.take_zero, List.take_nil, List.drop_succ_cons, List.drop_nil, Nat.zero_le, Nat.le_refl, Nat.sub_zero, List.getElem?_cons_succ, List.getElem?_cons_zero, List.getElem?_nil, List.any_cons, List.any_nil, List.all_cons, List.all_nil, List.append_nil, List.nil_append, List.cons_append, List.set_cons_zero, List.set_cons_succ,
    cond_true, cond_false, decide_true, decide_false, Bool.true_and, Bool.and_true, Bool.false_and, Bool.and_false, Bool.true_or, Bool.or_true, Bool.false_or, Bool.or_false, Bool.not_true, Bool.not_false, Bool.and_self, Bool.or_self, bT, bF, ieq, ine, decide_eq_true_eq, decide_not,
    Nat.reduceEqDiff, Nat.reduceAdd, Nat.reduceSub, Nat.reduceMul, Nat.reduceLeDiff, Nat.reduceLT, Nat.zero_add, Nat.add_zero, Option.getD_some, Option.getD_none, Option.isSome_some, Option.isSome_none, reduceIte, reduceCtorEq, and_self, and_true, true_and, not_true_eq_false, not_false_eq_true, false_imp_iff, forall_const, imp_self,
    Int.reduceNeg, Int.reduceLT, Int.reduceLE, Int.reduceGT, Int.reduceGE, Int.reduceAdd, Int.reduceSub, Int.reduceMul, Int.reduceToNat, Int.reduceEq, ne_eq, eq_self, beq_self_eq_true]
          all_goals (trace_state; sorry)
  · have hgt : ((a.length + b.length : Nat) : Int) > 600 := by omega
    rcases hd1 with ⟨rfl, rfl⟩ | rfl <;> rcases hd2 with ⟨rfl, rfl⟩ | rfl <;> try simp only [List.length_nil, Nat.zero_add, Nat.add_zero] at hw hgt
    all_goals simp only [fi8, Tryd.f8, an8, hw, hgt, hs, dp, T3, T4, T5, T25, T34, T57, e_seq, e_region, e_dyn, e_dynS, stepD, accs, accP, accW, simpleOp, isAl, isExt, flipD, D.fresh1, D.row, D.plain, D.plain.plainL, St.close, St.close1, St.borrow, thawV, D.plainU, List.flatten_cons, List.flatten_nil, e_block, e_cond, e_ret, e_skip, e_exit, e_plain, e_guard, e_nil, e_op, e_ifT, e_ifF, e_true, e_false, e_loop, e_l, e_top, e_seqN, e_seqE, e_seqR, e_blockN, e_blockR, e_blockE,
    e_finN, e_finX, e_finR, retV, resV, resL, outCL, outC, outL, outD, wantedV, opV, An.at_, prune, List.map_cons, List.map_nil, envOf, get, put, eval, ofV, nbeq, nble, binV, binV.aggV, unV, intV, eqOp, isConst, natV, optV, loadV, loadC, storeV, setC, St.at_, partV, indexAddrV, fieldAddrV, sliceV, sliceV.rowSl, sliceV.strSl, bounds, cutP,
    builtinV, lenV, maxL, maxV, appendV, St.elems, roomy, rowOf, rowS, isStr, esz, tdOf, convV, buildV, fillV, partsV, okParts, fillL, D.whole, D.demoteC, D.demote, demoteL, D.global, D.leaf, D.cells, TI.agg, TD.rowish, callOpV, CC, keepB, St.borrowL, St.borrow, D.isLsl, adoptR, adoptC, adoptCL, adoptL, adopt, upd,
    List.toArray, Array.toList, List.length_cons, List.length_nil, List.length_map, List.length_append, List.length_replicate, List.replicate_succ, List.replicate_zero, List.replicate_one, ← List.map_take, ← List.map_drop, List.drop_zero, List.take_succ_cons, List.take_zero, List.take_nil, List.drop_succ_cons, List.drop_nil, Nat.zero_le, Nat.le_refl, Nat.sub_zero, List.getElem?_cons_succ, List.getElem?_cons_zero, List.getElem?_nil, List.any_cons, List.any_nil, List.all_cons, List.all_nil, List.append_nil, List.nil_append, List.cons_append, List.set_cons_zero, List.set_cons_succ,
    cond_true, cond_false, decide_true, decide_false, Bool.true_and, Bool.and_true, Bool.false_and, Bool.and_false, Bool.true_or, Bool.or_true, Bool.false_or, Bool.or_false, Bool.not_true, Bool.not_false, Bool.and_self, Bool.or_self, bT, bF, ieq, ine, decide_eq_true_eq, decide_not,
    Nat.reduceEqDiff, Nat.reduceAdd, Nat.reduceSub, Nat.reduceMul, Nat.reduceLeDiff, Nat.reduceLT, Nat.zero_add, Nat.add_zero, Option.getD_some, Option.getD_none, Option.isSome_some, Option.isSome_none, reduceIte, reduceCtorEq, and_self, and_true, true_and, not_true_eq_false, not_false_eq_true, false_imp_iff, forall_const, imp_self,
    Int.reduceNeg, Int.reduceLT, Int.reduceLE, Int.reduceGT, Int.reduceGE, Int.reduceAdd, Int.reduceSub, Int.reduceMul, Int.reduceToNat, Int.reduceEq, ne_eq, eq_self, beq_self_eq_true]

end Go.Proofs.YtdmlojinmkcldaaDoor.V
