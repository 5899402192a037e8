/-
Layer 3: Get.
-/
import Derived.Test.YtdmlojinmkcldaaDoorJB
namespace Go.Proofs.YtdmlojinmkcldaaDoor.V
open Go Go.RowKit
set_option linter.unusedSimpArgs false
set_option linter.unusedVariables false

/-! warren/varint.Get -/
def an46 : An := ⟨fun | 3 => some [5, 8, 9, 10] | _ => .none, fun _ => false, fun _ => false⟩
noncomputable def fi46 : FI := ⟨1, 47, Tryd.f46.body.getD .skip, Tryd.f46.results.toList, an46⟩
theorem ok46 : FnOk Tryd.prog 46 fi46 := ⟨⟨Tryd.f46, Tryd.func46, by kernel_rfl, rfl, rfl, rfl⟩, by decide, by kernel_rfl⟩
noncomputable def lp46_0 : Code := subC [1, 1, 0, 1, 0, 0] (Tryd.f46.body.getD .skip)   -- keep [5, 8, 9, 10]
/-! warren/warrenref03.Get -/
def an47 : An := ⟨fun | 2 => some [0, 5] | 12 => some [0, 5, 6, 7] | _ => .none, fun _ => false, fun _ => false⟩
noncomputable def fi47 : FI := ⟨1, 72, Tryd.f47.body.getD .skip, Tryd.f47.results.toList, an47⟩
theorem ok47 : FnOk Tryd.prog 47 fi47 := ⟨⟨Tryd.f47, Tryd.func47, by kernel_rfl, rfl, rfl, rfl⟩, by decide, by kernel_rfl⟩
noncomputable def lp47_0 : Code := subC [1, 1, 0, 0, 0] (Tryd.f47.body.getD .skip)   -- keep [0, 5]
noncomputable def lp47_1 : Code := subC [1, 1, 1, 1, 1, 1, 1, 0, 1, 0, 0] (Tryd.f47.body.getD .skip)   -- keep [0, 5, 6, 7]

/-- The number at the beginning of bytes from place i on; or the error's number. -/
def getS : List UInt8 → Nat → Nat → Nat × Nat × Nat
  | [], _, _ => (0, 0, 6)
  | c :: r, i, v => if i = 9 ∧ 1 < c.toNat then (0, 0, 2) else if c.toNat = 0 ∧ 0 < i then (0, 0, 3) else
    if c.toNat < 128 then (v + c.toNat * 128 ^ i, i + 1, 0) else getS r (i + 1) (v + (c.toNat - 128) * 128 ^ i)

def errD (n : Nat) : D := if n = 0 then .nili else .iface 77 (.int .i64 n)

def st46 (l : List UInt8) (d : D) (v : Nat) (k : Nat) (B : Hp) : St := ⟨[(5, .int .u64 v), (8, d), (9, .int .i64 l.length), (10, .int .i64 k)], [], [], B⟩

set_option maxRecDepth 10000 in
theorem body46_end (C : Callees) (l : List UInt8) (d : D) (v : Nat) (B : Hp) :
    ∃ ρ, go T an46 C lp46_0 .top (st46 l d v l.length B) = some (.exit 0, ⟨ρ, [], [], B⟩) := by
  simp only [st46, lp46_0, subC, atC, Tryd.f46, an46, Int.lt_irrefl, T3, T5, T34, T63, T65, T77, e_seq, e_region, e_dyn, e_dynS, stepD, accs, accP, accW, simpleOp, isAl, isExt, List.flatten_cons, List.flatten_nil, e_block, e_cond, e_ret, e_skip, e_exit, e_plain, e_guard, e_nil, e_op, e_ifT, e_ifF, e_true, e_false, e_loop, e_l, e_top, e_seqN, e_seqE, e_seqR, e_blockN, e_blockR, e_blockE,
    e_finN, e_finX, e_finR, retV, resV, resL, outCL, outC, outL, outD, wantedV, opV, An.at_, prune, List.map_cons, List.map_nil, envOf, get, put, eval, ofV, nbeq, nble, binV, binV.aggV, unV, intV, eqOp, isConst, natV, optV, loadV, loadC, storeV, setC, St.at_, partV, indexAddrV, fieldAddrV, sliceV, sliceV.rowSl, sliceV.strSl, bounds, cutP,
    builtinV, lenV, maxL, maxV, appendV, St.elems, roomy, rowOf, rowS, isStr, esz, tdOf, convV, buildV, fillV, partsV, okParts, fillL, D.whole, D.demoteC, D.demote, demoteL, D.global, D.leaf, D.cells, TI.agg, TD.rowish, callOpV, CC, keepB, St.borrowL, St.borrow, D.isLsl, adoptR, adoptC, adoptCL, adoptL, adopt, upd,
    List.toArray, Array.toList, List.length_cons, List.length_nil, List.length_map, List.length_append, List.length_replicate, List.replicate_succ, List.replicate_zero, List.replicate_one, ← List.map_take, ← List.map_drop, List.drop_zero, List.take_succ_cons, List.take_zero, List.take_nil, List.drop_succ_cons, List.drop_nil, Nat.zero_le, Nat.le_refl, Nat.sub_zero, List.getElem?_cons_succ, List.getElem?_cons_zero, List.getElem?_nil, List.any_cons, List.any_nil, List.all_cons, List.all_nil, List.append_nil, List.nil_append, List.cons_append, List.set_cons_zero, List.set_cons_succ,
    cond_true, cond_false, decide_true, decide_false, Bool.true_and, Bool.and_true, Bool.false_and, Bool.and_false, Bool.true_or, Bool.or_true, Bool.false_or, Bool.or_false, Bool.not_true, Bool.not_false, Bool.and_self, Bool.or_self, bT, bF, ieq, ine, decide_eq_true_eq, decide_not,
    Nat.reduceEqDiff, Nat.reduceAdd, Nat.reduceSub, Nat.reduceMul, Nat.reduceLeDiff, Nat.reduceLT, Nat.zero_add, Nat.add_zero, Option.getD_some, Option.getD_none, Option.isSome_some, Option.isSome_none, reduceIte, reduceCtorEq, and_self, and_true, true_and, not_true_eq_false, not_false_eq_true, false_imp_iff, forall_const, imp_self,
    Int.reduceNeg, Int.reduceLT, Int.reduceLE, Int.reduceAdd, Int.reduceSub, Int.reduceMul, Int.reduceToNat, Int.reduceEq, ne_eq, eq_self, beq_self_eq_true]
  exact ⟨_, rfl⟩

theorem not_128 (c : UInt8) : bitsV .andNot .u8 (c.toNat : Int) 128 = ((c.toNat % 128 : Nat) : Int) := by
  have e2 : (128 : Int) = ((128 : Nat) : Int) := rfl
  rw [e2, bits_nat rfl _ _ _ (by show c.toNat < 2 ^ 8; exact c.toNat_lt) (by show 128 < 2 ^ 8; omega)]
  simp only []
  have hdec : ∀ x : Fin 256, (x.val &&& (2 ^ 8 - 1 - 128)) = x.val % 128 := of_decide_eq_true (by kernel_rfl)
  have := hdec ⟨c.toNat, c.toNat_lt⟩
  exact congrArg Nat.cast this

theorem p128 (i : Nat) : (128 : Nat) ^ i = 2 ^ (7 * i) := by
  rw [Nat.pow_mul]

theorem c128_lt {c i : Nat} (hc : c < 128) (hi : i ≤ 9) (h9 : i = 9 → c ≤ 1) : c * 128 ^ i < 18446744073709551616 := by
  by_cases h : i = 9
  · subst h; have := h9 rfl; omega
  · have : 128 ^ i ≤ 128 ^ 8 := Nat.pow_le_pow_right (by omega) (by omega)
    have h2 : c * 128 ^ i ≤ 127 * 128 ^ 8 := Nat.mul_le_mul (by omega) this
    omega

theorem shl_at {c i : Nat} (hc : c < 128) (hi : i ≤ 9) (h9 : i = 9 → c ≤ 1) : shlV .u64 (c : Int) (IntKind.u64.wrap (7 * IntKind.u64.wrap (i : Int))) = ((c * 128 ^ i : Nat) : Int) := by
  rw [wrap_u64 (x := (i : Int)) (by omega) (by omega), wrap_u64 (by omega) (by omega)]
  have h1 : min (7 * (i : Int)).toNat 64 = 7 * i := by omega
  have h3 := c128_lt hc hi h9
  unfold shlV
  rw [show IntKind.u64.bits = 64 from rfl, h1]
  have h2 : (c : Int) * 2 ^ (7 * i) = ((c * 128 ^ i : Nat) : Int) := by
    rw [p128, Int.natCast_mul, Int.natCast_pow]; rfl
  rw [h2, wrap_u64 (by omega) (by omega)]

theorem or_at {v c i : Nat} (hv : v < 128 ^ i) (hc : c < 128) (hi : i ≤ 9) (h9 : i = 9 → c ≤ 1) : bitsV .or .u64 (v : Int) ((c * 128 ^ i : Nat) : Int) = ((v + c * 128 ^ i : Nat) : Int) := by
  have h3 := c128_lt hc hi h9
  have h4 : (128 : Nat) ^ i ≤ 128 ^ 9 := Nat.pow_le_pow_right (by omega) hi
  rw [bits_nat rfl _ _ _ (by show v < 2 ^ 64; omega) (by show _ < 2 ^ 64; omega)]
  simp only []
  have h5 := Nat.shiftLeft_add_eq_or_of_lt (b := v) (i := 7 * i) (by rw [← p128]; exact hv) c
  rw [Nat.shiftLeft_eq, ← p128] at h5
  rw [Nat.or_comm, ← h5, Nat.add_comm]

set_option maxRecDepth 10000 in
theorem body46_range (C : Callees) (l : List UInt8) (p : Perm) (v : Nat) (B : Hp) (c : UInt8) (hk : l[9]? = some c) (hc : 1 < c.toNat) :
    ∃ ρ, go T an46 C lp46_0 .top (st46 l (.vec 1 (l.map byteD) p) v 9 B) = some (.ret, ⟨ρ, [], [], B⟩) ∧ get ρ 2 = .int .u64 0 ∧ get ρ 3 = .int .i64 0 ∧ get ρ 4 = errD 2 := by
  have hlt : ((9 : Nat) : Int) < l.length := by have := (List.getElem?_eq_some_iff.1 hk).1; omega
  have h1 : (c.toNat : Int) > 1 := by omega
  have h9 : ((9 : Nat) : Int) = 9 := rfl
  rw [h9] at hlt
  simp only [st46, lp46_0, subC, atC, Tryd.f46, an46, hlt, h1, h9, List.getElem?_map, hk, Option.map_some, byteD, errD, T3, T5, T34, T63, T65, T77, e_seq, e_region, e_dyn, e_dynS, stepD, accs, accP, accW, simpleOp, isAl, isExt, List.flatten_cons, List.flatten_nil, e_block, e_cond, e_ret, e_skip, e_exit, e_plain, e_guard, e_nil, e_op, e_ifT, e_ifF, e_true, e_false, e_loop, e_l, e_top, e_seqN, e_seqE, e_seqR, e_blockN, e_blockR, e_blockE,
    e_finN, e_finX, e_finR, retV, resV, resL, outCL, outC, outL, outD, wantedV, opV, An.at_, prune, List.map_cons, List.map_nil, envOf, get, put, eval, ofV, nbeq, nble, binV, binV.aggV, unV, intV, eqOp, isConst, natV, optV, loadV, loadC, storeV, setC, St.at_, partV, indexAddrV, fieldAddrV, sliceV, sliceV.rowSl, sliceV.strSl, bounds, cutP,
    builtinV, lenV, maxL, maxV, appendV, St.elems, roomy, rowOf, rowS, isStr, esz, tdOf, convV, buildV, fillV, partsV, okParts, fillL, D.whole, D.demoteC, D.demote, demoteL, D.global, D.leaf, D.cells, TI.agg, TD.rowish, callOpV, CC, keepB, St.borrowL, St.borrow, D.isLsl, adoptR, adoptC, adoptCL, adoptL, adopt, upd,
    List.toArray, Array.toList, List.length_cons, List.length_nil, List.length_map, List.length_append, List.length_replicate, List.replicate_succ, List.replicate_zero, List.replicate_one, ← List.map_take, ← List.map_drop, List.drop_zero, List.take_succ_cons, List.take_zero, List.take_nil, List.drop_succ_cons, List.drop_nil, Nat.zero_le, Nat.le_refl, Nat.sub_zero, List.getElem?_cons_succ, List.getElem?_cons_zero, List.getElem?_nil, List.any_cons, List.any_nil, List.all_cons, List.all_nil, List.append_nil, List.nil_append, List.cons_append, List.set_cons_zero, List.set_cons_succ,
    cond_true, cond_false, decide_true, decide_false, Bool.true_and, Bool.and_true, Bool.false_and, Bool.and_false, Bool.true_or, Bool.or_true, Bool.false_or, Bool.or_false, Bool.not_true, Bool.not_false, Bool.and_self, Bool.or_self, bT, bF, ieq, ine, decide_eq_true_eq, decide_not,
    Nat.reduceEqDiff, Nat.reduceAdd, Nat.reduceSub, Nat.reduceMul, Nat.reduceLeDiff, Nat.reduceLT, Nat.zero_add, Nat.add_zero, Option.getD_some, Option.getD_none, Option.isSome_some, Option.isSome_none, reduceIte, reduceCtorEq, and_self, and_true, true_and, not_true_eq_false, not_false_eq_true, false_imp_iff, forall_const, imp_self,
    Int.reduceNeg, Int.reduceLT, Int.reduceLE, Int.reduceAdd, Int.reduceSub, Int.reduceMul, Int.reduceToNat, Int.reduceEq, ne_eq, eq_self, beq_self_eq_true]
  exact ⟨_, rfl, rfl, rfl, rfl⟩

set_option maxRecDepth 10000 in
theorem body46_form (C : Callees) (l : List UInt8) (p : Perm) (v k : Nat) (B : Hp) (c : UInt8) (hk : l[k]? = some c) (hc : c.toNat = 0) (h0 : 0 < k) :
    ∃ ρ, go T an46 C lp46_0 .top (st46 l (.vec 1 (l.map byteD) p) v k B) = some (.ret, ⟨ρ, [], [], B⟩) ∧ get ρ 2 = .int .u64 0 ∧ get ρ 3 = .int .i64 0 ∧ get ρ 4 = errD 3 := by
  have hlt : (k : Int) < l.length := by have := (List.getElem?_eq_some_iff.1 hk).1; omega
  have h1 : (k : Int) > 0 := by omega
  have h2 : (0 : Int) ≤ k := by omega
  have h3 : (c.toNat : Int) = 0 := by omega
  simp only [st46, lp46_0, subC, atC, Tryd.f46, an46, hlt, h1, h2, h3, List.getElem?_map, Int.toNat_natCast, hk, Option.map_some, byteD, errD, T3, T5, T34, T63, T65, T77, e_seq, e_region, e_dyn, e_dynS, stepD, accs, accP, accW, simpleOp, isAl, isExt, List.flatten_cons, List.flatten_nil, e_block, e_cond, e_ret, e_skip, e_exit, e_plain, e_guard, e_nil, e_op, e_ifT, e_ifF, e_true, e_false, e_loop, e_l, e_top, e_seqN, e_seqE, e_seqR, e_blockN, e_blockR, e_blockE,
    e_finN, e_finX, e_finR, retV, resV, resL, outCL, outC, outL, outD, wantedV, opV, An.at_, prune, List.map_cons, List.map_nil, envOf, get, put, eval, ofV, nbeq, nble, binV, binV.aggV, unV, intV, eqOp, isConst, natV, optV, loadV, loadC, storeV, setC, St.at_, partV, indexAddrV, fieldAddrV, sliceV, sliceV.rowSl, sliceV.strSl, bounds, cutP,
    builtinV, lenV, maxL, maxV, appendV, St.elems, roomy, rowOf, rowS, isStr, esz, tdOf, convV, buildV, fillV, partsV, okParts, fillL, D.whole, D.demoteC, D.demote, demoteL, D.global, D.leaf, D.cells, TI.agg, TD.rowish, callOpV, CC, keepB, St.borrowL, St.borrow, D.isLsl, adoptR, adoptC, adoptCL, adoptL, adopt, upd,
    List.toArray, Array.toList, List.length_cons, List.length_nil, List.length_map, List.length_append, List.length_replicate, List.replicate_succ, List.replicate_zero, List.replicate_one, ← List.map_take, ← List.map_drop, List.drop_zero, List.take_succ_cons, List.take_zero, List.take_nil, List.drop_succ_cons, List.drop_nil, Nat.zero_le, Nat.le_refl, Nat.sub_zero, List.getElem?_cons_succ, List.getElem?_cons_zero, List.getElem?_nil, List.any_cons, List.any_nil, List.all_cons, List.all_nil, List.append_nil, List.nil_append, List.cons_append, List.set_cons_zero, List.set_cons_succ,
    cond_true, cond_false, decide_true, decide_false, Bool.true_and, Bool.and_true, Bool.false_and, Bool.and_false, Bool.true_or, Bool.or_true, Bool.false_or, Bool.or_false, Bool.not_true, Bool.not_false, Bool.and_self, Bool.or_self, bT, bF, ieq, ine, decide_eq_true_eq, decide_not,
    Nat.reduceEqDiff, Nat.reduceAdd, Nat.reduceSub, Nat.reduceMul, Nat.reduceLeDiff, Nat.reduceLT, Nat.zero_add, Nat.add_zero, Option.getD_some, Option.getD_none, Option.isSome_some, Option.isSome_none, reduceIte, reduceCtorEq, and_self, and_true, true_and, not_true_eq_false, not_false_eq_true, false_imp_iff, forall_const, imp_self,
    Int.reduceNeg, Int.reduceLT, Int.reduceLE, Int.reduceAdd, Int.reduceSub, Int.reduceMul, Int.reduceToNat, Int.reduceEq, ne_eq, eq_self, beq_self_eq_true]
  by_cases h9 : (k : Int) = 9
  · simp only [h9, T3, T5, T34, T63, T65, T77, e_seq, e_region, e_dyn, e_dynS, stepD, accs, accP, accW, simpleOp, isAl, isExt, List.flatten_cons, List.flatten_nil, e_block, e_cond, e_ret, e_skip, e_exit, e_plain, e_guard, e_nil, e_op, e_ifT, e_ifF, e_true, e_false, e_loop, e_l, e_top, e_seqN, e_seqE, e_seqR, e_blockN, e_blockR, e_blockE,
    e_finN, e_finX, e_finR, retV, resV, resL, outCL, outC, outL, outD, wantedV, opV, An.at_, prune, List.map_cons, List.map_nil, envOf, get, put, eval, ofV, nbeq, nble, binV, binV.aggV, unV, intV, eqOp, isConst, natV, optV, loadV, loadC, storeV, setC, St.at_, partV, indexAddrV, fieldAddrV, sliceV, sliceV.rowSl, sliceV.strSl, bounds, cutP,
    builtinV, lenV, maxL, maxV, appendV, St.elems, roomy, rowOf, rowS, isStr, esz, tdOf, convV, buildV, fillV, partsV, okParts, fillL, D.whole, D.demoteC, D.demote, demoteL, D.global, D.leaf, D.cells, TI.agg, TD.rowish, callOpV, CC, keepB, St.borrowL, St.borrow, D.isLsl, adoptR, adoptC, adoptCL, adoptL, adopt, upd,
    List.toArray, Array.toList, List.length_cons, List.length_nil, List.length_map, List.length_append, List.length_replicate, List.replicate_succ, List.replicate_zero, List.replicate_one, ← List.map_take, ← List.map_drop, List.drop_zero, List.take_succ_cons, List.take_zero, List.take_nil, List.drop_succ_cons, List.drop_nil, Nat.zero_le, Nat.le_refl, Nat.sub_zero, List.getElem?_cons_succ, List.getElem?_cons_zero, List.getElem?_nil, List.any_cons, List.any_nil, List.all_cons, List.all_nil, List.append_nil, List.nil_append, List.cons_append, List.set_cons_zero, List.set_cons_succ,
    cond_true, cond_false, decide_true, decide_false, Bool.true_and, Bool.and_true, Bool.false_and, Bool.and_false, Bool.true_or, Bool.or_true, Bool.false_or, Bool.or_false, Bool.not_true, Bool.not_false, Bool.and_self, Bool.or_self, bT, bF, ieq, ine, decide_eq_true_eq, decide_not,
    Nat.reduceEqDiff, Nat.reduceAdd, Nat.reduceSub, Nat.reduceMul, Nat.reduceLeDiff, Nat.reduceLT, Nat.zero_add, Nat.add_zero, Option.getD_some, Option.getD_none, Option.isSome_some, Option.isSome_none, reduceIte, reduceCtorEq, and_self, and_true, true_and, not_true_eq_false, not_false_eq_true, false_imp_iff, forall_const, imp_self,
    Int.reduceNeg, Int.reduceLT, Int.reduceLE, Int.reduceAdd, Int.reduceSub, Int.reduceMul, Int.reduceToNat, Int.reduceEq, ne_eq, eq_self, beq_self_eq_true]
    exact ⟨_, rfl, rfl, rfl, rfl⟩
  · simp only [h9, h1, T3, T5, T34, T63, T65, T77, e_seq, e_region, e_dyn, e_dynS, stepD, accs, accP, accW, simpleOp, isAl, isExt, List.flatten_cons, List.flatten_nil, e_block, e_cond, e_ret, e_skip, e_exit, e_plain, e_guard, e_nil, e_op, e_ifT, e_ifF, e_true, e_false, e_loop, e_l, e_top, e_seqN, e_seqE, e_seqR, e_blockN, e_blockR, e_blockE,
    e_finN, e_finX, e_finR, retV, resV, resL, outCL, outC, outL, outD, wantedV, opV, An.at_, prune, List.map_cons, List.map_nil, envOf, get, put, eval, ofV, nbeq, nble, binV, binV.aggV, unV, intV, eqOp, isConst, natV, optV, loadV, loadC, storeV, setC, St.at_, partV, indexAddrV, fieldAddrV, sliceV, sliceV.rowSl, sliceV.strSl, bounds, cutP,
    builtinV, lenV, maxL, maxV, appendV, St.elems, roomy, rowOf, rowS, isStr, esz, tdOf, convV, buildV, fillV, partsV, okParts, fillL, D.whole, D.demoteC, D.demote, demoteL, D.global, D.leaf, D.cells, TI.agg, TD.rowish, callOpV, CC, keepB, St.borrowL, St.borrow, D.isLsl, adoptR, adoptC, adoptCL, adoptL, adopt, upd,
    List.toArray, Array.toList, List.length_cons, List.length_nil, List.length_map, List.length_append, List.length_replicate, List.replicate_succ, List.replicate_zero, List.replicate_one, ← List.map_take, ← List.map_drop, List.drop_zero, List.take_succ_cons, List.take_zero, List.take_nil, List.drop_succ_cons, List.drop_nil, Nat.zero_le, Nat.le_refl, Nat.sub_zero, List.getElem?_cons_succ, List.getElem?_cons_zero, List.getElem?_nil, List.any_cons, List.any_nil, List.all_cons, List.all_nil, List.append_nil, List.nil_append, List.cons_append, List.set_cons_zero, List.set_cons_succ,
    cond_true, cond_false, decide_true, decide_false, Bool.true_and, Bool.and_true, Bool.false_and, Bool.and_false, Bool.true_or, Bool.or_true, Bool.false_or, Bool.or_false, Bool.not_true, Bool.not_false, Bool.and_self, Bool.or_self, bT, bF, ieq, ine, decide_eq_true_eq, decide_not,
    Nat.reduceEqDiff, Nat.reduceAdd, Nat.reduceSub, Nat.reduceMul, Nat.reduceLeDiff, Nat.reduceLT, Nat.zero_add, Nat.add_zero, Option.getD_some, Option.getD_none, Option.isSome_some, Option.isSome_none, reduceIte, reduceCtorEq, and_self, and_true, true_and, not_true_eq_false, not_false_eq_true, false_imp_iff, forall_const, imp_self,
    Int.reduceNeg, Int.reduceLT, Int.reduceLE, Int.reduceAdd, Int.reduceSub, Int.reduceMul, Int.reduceToNat, Int.reduceEq, ne_eq, eq_self, beq_self_eq_true]
    exact ⟨_, rfl, rfl, rfl, rfl⟩

set_option maxRecDepth 10000 in
theorem body46_done (C : Callees) (l : List UInt8) (p : Perm) (v k : Nat) (B : Hp) (c : UInt8) (hk : l[k]? = some c) (hr : ¬ (k = 9 ∧ 1 < c.toNat)) (hf : ¬ (c.toNat = 0 ∧ 0 < k)) (hc : c.toNat < 128) (hk9 : k ≤ 9) (hv : v < 128 ^ k) :
    ∃ ρ, go T an46 C lp46_0 .top (st46 l (.vec 1 (l.map byteD) p) v k B) = some (.ret, ⟨ρ, [], [], B⟩) ∧ get ρ 2 = .int .u64 ((v + c.toNat * 128 ^ k : Nat) : Int) ∧ get ρ 3 = .int .i64 ((k + 1 : Nat) : Int) ∧ get ρ 4 = errD 0 := by
  have hlt : (k : Int) < l.length := by have := (List.getElem?_eq_some_iff.1 hk).1; omega
  have h2 : (0 : Int) ≤ k := by omega
  have hm : c.toNat % 128 = c.toNat := Nat.mod_eq_of_lt hc
  have h3 := not_128 c
  rw [hm] at h3
  have h4 : IntKind.u64.wrap (c.toNat : Int) = c.toNat := wrap_u64 (by omega) (by omega)
  have h5 := shl_at (c := c.toNat) (i := k) hc hk9 (by omega)
  have h6 := or_at (c := c.toNat) (i := k) hv hc hk9 (by omega)
  have h7 : (c.toNat : Int) < 128 := by omega
  have h8 : IntKind.i64.wrap ((k : Int) + 1) = ((k + 1 : Nat) : Int) := by rw [wrapI (by omega) (by omega)]; omega
  have h11 : ¬ IntKind.u64.wrap (7 * IntKind.u64.wrap (k : Int)) < 0 := by
    rw [wrap_u64 (x := (k : Int)) (by omega) (by omega), wrap_u64 (by omega) (by omega)]; omega
  by_cases h9 : (k : Int) = 9
  · have g1 : ¬ (c.toNat : Int) > 1 := by omega
    have g2 : ¬ (c.toNat : Int) = 0 := by omega
    have g3 : ((k : Int) = 9) = True := eq_true h9
    simp only [st46, lp46_0, subC, atC, Tryd.f46, an46, hlt, h2, h3, h4, h5, h6, h7, h8, h11, g1, g2, g3, List.getElem?_map, Int.toNat_natCast, hk, Option.map_some, byteD, errD, T3, T5, T34, T63, T65, T77, e_seq, e_region, e_dyn, e_dynS, stepD, accs, accP, accW, simpleOp, isAl, isExt, List.flatten_cons, List.flatten_nil, e_block, e_cond, e_ret, e_skip, e_exit, e_plain, e_guard, e_nil, e_op, e_ifT, e_ifF, e_true, e_false, e_loop, e_l, e_top, e_seqN, e_seqE, e_seqR, e_blockN, e_blockR, e_blockE,
    e_finN, e_finX, e_finR, retV, resV, resL, outCL, outC, outL, outD, wantedV, opV, An.at_, prune, List.map_cons, List.map_nil, envOf, get, put, eval, ofV, nbeq, nble, binV, binV.aggV, unV, intV, eqOp, isConst, natV, optV, loadV, loadC, storeV, setC, St.at_, partV, indexAddrV, fieldAddrV, sliceV, sliceV.rowSl, sliceV.strSl, bounds, cutP,
    builtinV, lenV, maxL, maxV, appendV, St.elems, roomy, rowOf, rowS, isStr, esz, tdOf, convV, buildV, fillV, partsV, okParts, fillL, D.whole, D.demoteC, D.demote, demoteL, D.global, D.leaf, D.cells, TI.agg, TD.rowish, callOpV, CC, keepB, St.borrowL, St.borrow, D.isLsl, adoptR, adoptC, adoptCL, adoptL, adopt, upd,
    List.toArray, Array.toList, List.length_cons, List.length_nil, List.length_map, List.length_append, List.length_replicate, List.replicate_succ, List.replicate_zero, List.replicate_one, ← List.map_take, ← List.map_drop, List.drop_zero, List.take_succ_cons, List.take_zero, List.take_nil, List.drop_succ_cons, List.drop_nil, Nat.zero_le, Nat.le_refl, Nat.sub_zero, List.getElem?_cons_succ, List.getElem?_cons_zero, List.getElem?_nil, List.any_cons, List.any_nil, List.all_cons, List.all_nil, List.append_nil, List.nil_append, List.cons_append, List.set_cons_zero, List.set_cons_succ,
    cond_true, cond_false, decide_true, decide_false, Bool.true_and, Bool.and_true, Bool.false_and, Bool.and_false, Bool.true_or, Bool.or_true, Bool.false_or, Bool.or_false, Bool.not_true, Bool.not_false, Bool.and_self, Bool.or_self, bT, bF, ieq, ine, decide_eq_true_eq, decide_not,
    Nat.reduceEqDiff, Nat.reduceAdd, Nat.reduceSub, Nat.reduceMul, Nat.reduceLeDiff, Nat.reduceLT, Nat.zero_add, Nat.add_zero, Option.getD_some, Option.getD_none, Option.isSome_some, Option.isSome_none, reduceIte, reduceCtorEq, and_self, and_true, true_and, not_true_eq_false, not_false_eq_true, false_imp_iff, forall_const, imp_self,
    Int.reduceNeg, Int.reduceLT, Int.reduceLE, Int.reduceAdd, Int.reduceSub, Int.reduceMul, Int.reduceToNat, Int.reduceEq, ne_eq, eq_self, beq_self_eq_true]
    exact ⟨_, rfl, rfl, rfl, rfl⟩
  · by_cases g2 : (c.toNat : Int) = 0
    · have g3 : ¬ (k : Int) > 0 := by omega
      have g4 : ((c.toNat : Int) = 0) = True := eq_true g2
      simp only [st46, lp46_0, subC, atC, Tryd.f46, an46, hlt, h2, h3, h4, h5, h6, h7, h8, h11, h9, g3, g4, List.getElem?_map, Int.toNat_natCast, hk, Option.map_some, byteD, errD, T3, T5, T34, T63, T65, T77, e_seq, e_region, e_dyn, e_dynS, stepD, accs, accP, accW, simpleOp, isAl, isExt, List.flatten_cons, List.flatten_nil, e_block, e_cond, e_ret, e_skip, e_exit, e_plain, e_guard, e_nil, e_op, e_ifT, e_ifF, e_true, e_false, e_loop, e_l, e_top, e_seqN, e_seqE, e_seqR, e_blockN, e_blockR, e_blockE,
    e_finN, e_finX, e_finR, retV, resV, resL, outCL, outC, outL, outD, wantedV, opV, An.at_, prune, List.map_cons, List.map_nil, envOf, get, put, eval, ofV, nbeq, nble, binV, binV.aggV, unV, intV, eqOp, isConst, natV, optV, loadV, loadC, storeV, setC, St.at_, partV, indexAddrV, fieldAddrV, sliceV, sliceV.rowSl, sliceV.strSl, bounds, cutP,
    builtinV, lenV, maxL, maxV, appendV, St.elems, roomy, rowOf, rowS, isStr, esz, tdOf, convV, buildV, fillV, partsV, okParts, fillL, D.whole, D.demoteC, D.demote, demoteL, D.global, D.leaf, D.cells, TI.agg, TD.rowish, callOpV, CC, keepB, St.borrowL, St.borrow, D.isLsl, adoptR, adoptC, adoptCL, adoptL, adopt, upd,
    List.toArray, Array.toList, List.length_cons, List.length_nil, List.length_map, List.length_append, List.length_replicate, List.replicate_succ, List.replicate_zero, List.replicate_one, ← List.map_take, ← List.map_drop, List.drop_zero, List.take_succ_cons, List.take_zero, List.take_nil, List.drop_succ_cons, List.drop_nil, Nat.zero_le, Nat.le_refl, Nat.sub_zero, List.getElem?_cons_succ, List.getElem?_cons_zero, List.getElem?_nil, List.any_cons, List.any_nil, List.all_cons, List.all_nil, List.append_nil, List.nil_append, List.cons_append, List.set_cons_zero, List.set_cons_succ,
    cond_true, cond_false, decide_true, decide_false, Bool.true_and, Bool.and_true, Bool.false_and, Bool.and_false, Bool.true_or, Bool.or_true, Bool.false_or, Bool.or_false, Bool.not_true, Bool.not_false, Bool.and_self, Bool.or_self, bT, bF, ieq, ine, decide_eq_true_eq, decide_not,
    Nat.reduceEqDiff, Nat.reduceAdd, Nat.reduceSub, Nat.reduceMul, Nat.reduceLeDiff, Nat.reduceLT, Nat.zero_add, Nat.add_zero, Option.getD_some, Option.getD_none, Option.isSome_some, Option.isSome_none, reduceIte, reduceCtorEq, and_self, and_true, true_and, not_true_eq_false, not_false_eq_true, false_imp_iff, forall_const, imp_self,
    Int.reduceNeg, Int.reduceLT, Int.reduceLE, Int.reduceAdd, Int.reduceSub, Int.reduceMul, Int.reduceToNat, Int.reduceEq, ne_eq, eq_self, beq_self_eq_true]
      exact ⟨_, rfl, rfl, rfl, rfl⟩
    · simp only [st46, lp46_0, subC, atC, Tryd.f46, an46, hlt, h2, h3, h4, h5, h6, h7, h8, h11, h9, g2, List.getElem?_map, Int.toNat_natCast, hk, Option.map_some, byteD, errD, T3, T5, T34, T63, T65, T77, e_seq, e_region, e_dyn, e_dynS, stepD, accs, accP, accW, simpleOp, isAl, isExt, List.flatten_cons, List.flatten_nil, e_block, e_cond, e_ret, e_skip, e_exit, e_plain, e_guard, e_nil, e_op, e_ifT, e_ifF, e_true, e_false, e_loop, e_l, e_top, e_seqN, e_seqE, e_seqR, e_blockN, e_blockR, e_blockE,
    e_finN, e_finX, e_finR, retV, resV, resL, outCL, outC, outL, outD, wantedV, opV, An.at_, prune, List.map_cons, List.map_nil, envOf, get, put, eval, ofV, nbeq, nble, binV, binV.aggV, unV, intV, eqOp, isConst, natV, optV, loadV, loadC, storeV, setC, St.at_, partV, indexAddrV, fieldAddrV, sliceV, sliceV.rowSl, sliceV.strSl, bounds, cutP,
    builtinV, lenV, maxL, maxV, appendV, St.elems, roomy, rowOf, rowS, isStr, esz, tdOf, convV, buildV, fillV, partsV, okParts, fillL, D.whole, D.demoteC, D.demote, demoteL, D.global, D.leaf, D.cells, TI.agg, TD.rowish, callOpV, CC, keepB, St.borrowL, St.borrow, D.isLsl, adoptR, adoptC, adoptCL, adoptL, adopt, upd,
    List.toArray, Array.toList, List.length_cons, List.length_nil, List.length_map, List.length_append, List.length_replicate, List.replicate_succ, List.replicate_zero, List.replicate_one, ← List.map_take, ← List.map_drop, List.drop_zero, List.take_succ_cons, List.take_zero, List.take_nil, List.drop_succ_cons, List.drop_nil, Nat.zero_le, Nat.le_refl, Nat.sub_zero, List.getElem?_cons_succ, List.getElem?_cons_zero, List.getElem?_nil, List.any_cons, List.any_nil, List.all_cons, List.all_nil, List.append_nil, List.nil_append, List.cons_append, List.set_cons_zero, List.set_cons_succ,
    cond_true, cond_false, decide_true, decide_false, Bool.true_and, Bool.and_true, Bool.false_and, Bool.and_false, Bool.true_or, Bool.or_true, Bool.false_or, Bool.or_false, Bool.not_true, Bool.not_false, Bool.and_self, Bool.or_self, bT, bF, ieq, ine, decide_eq_true_eq, decide_not,
    Nat.reduceEqDiff, Nat.reduceAdd, Nat.reduceSub, Nat.reduceMul, Nat.reduceLeDiff, Nat.reduceLT, Nat.zero_add, Nat.add_zero, Option.getD_some, Option.getD_none, Option.isSome_some, Option.isSome_none, reduceIte, reduceCtorEq, and_self, and_true, true_and, not_true_eq_false, not_false_eq_true, false_imp_iff, forall_const, imp_self,
    Int.reduceNeg, Int.reduceLT, Int.reduceLE, Int.reduceAdd, Int.reduceSub, Int.reduceMul, Int.reduceToNat, Int.reduceEq, ne_eq, eq_self, beq_self_eq_true]
      exact ⟨_, rfl, rfl, rfl, rfl⟩

set_option maxRecDepth 10000 in
theorem body46_next (C : Callees) (l : List UInt8) (p : Perm) (v k : Nat) (B : Hp) (c : UInt8) (hk : l[k]? = some c) (hc : ¬ c.toNat < 128) (hk9 : k < 9) (hv : v < 128 ^ k) :
    ∃ ρ, go T an46 C lp46_0 .top (st46 l (.vec 1 (l.map byteD) p) v k B) = some (.norm, ⟨ρ, [], [], B⟩) ∧ an46.at_ (some 3) ⟨ρ, [], [], B⟩ = st46 l (.vec 1 (l.map byteD) p) (v + (c.toNat - 128) * 128 ^ k) (k + 1) B := by
  have hlt : (k : Int) < l.length := by have := (List.getElem?_eq_some_iff.1 hk).1; omega
  have h2 : (0 : Int) ≤ k := by omega
  have hc2 := c.toNat_lt
  have hm : c.toNat % 128 = c.toNat - 128 := by omega
  have h3 := not_128 c
  rw [hm] at h3
  have h4 : IntKind.u64.wrap ((c.toNat - 128 : Nat) : Int) = ((c.toNat - 128 : Nat) : Int) := wrap_u64 (by omega) (by omega)
  have h5 := shl_at (c := c.toNat - 128) (i := k) (by omega) (by omega) (by omega)
  have h6 := or_at (c := c.toNat - 128) (i := k) hv (by omega) (by omega) (by omega)
  have h7 : ¬ (c.toNat : Int) < 128 := by omega
  have h8 : IntKind.i64.wrap ((k : Int) + 1) = ((k + 1 : Nat) : Int) := by rw [wrapI (by omega) (by omega)]; omega
  have h9 : ¬ (k : Int) = 9 := by omega
  have h10 : ¬ (c.toNat : Int) = 0 := by omega
  have h11 : ¬ IntKind.u64.wrap (7 * IntKind.u64.wrap (k : Int)) < 0 := by
    rw [wrap_u64 (x := (k : Int)) (by omega) (by omega), wrap_u64 (by omega) (by omega)]; omega
  generalize hz : c.toNat - 128 = z at h3 h4 h5 h6 ⊢
  simp only [st46, lp46_0, subC, atC, Tryd.f46, an46, hlt, h2, h3, h4, h5, h6, h7, h8, h11, h9, h10, List.getElem?_map, Int.toNat_natCast, hk, Option.map_some, byteD, T3, T5, T34, T63, T65, T77, e_seq, e_region, e_dyn, e_dynS, stepD, accs, accP, accW, simpleOp, isAl, isExt, List.flatten_cons, List.flatten_nil, e_block, e_cond, e_ret, e_skip, e_exit, e_plain, e_guard, e_nil, e_op, e_ifT, e_ifF, e_true, e_false, e_loop, e_l, e_top, e_seqN, e_seqE, e_seqR, e_blockN, e_blockR, e_blockE,
    e_finN, e_finX, e_finR, retV, resV, resL, outCL, outC, outL, outD, wantedV, opV, An.at_, prune, List.map_cons, List.map_nil, envOf, get, put, eval, ofV, nbeq, nble, binV, binV.aggV, unV, intV, eqOp, isConst, natV, optV, loadV, loadC, storeV, setC, St.at_, partV, indexAddrV, fieldAddrV, sliceV, sliceV.rowSl, sliceV.strSl, bounds, cutP,
    builtinV, lenV, maxL, maxV, appendV, St.elems, roomy, rowOf, rowS, isStr, esz, tdOf, convV, buildV, fillV, partsV, okParts, fillL, D.whole, D.demoteC, D.demote, demoteL, D.global, D.leaf, D.cells, TI.agg, TD.rowish, callOpV, CC, keepB, St.borrowL, St.borrow, D.isLsl, adoptR, adoptC, adoptCL, adoptL, adopt, upd,
    List.toArray, Array.toList, List.length_cons, List.length_nil, List.length_map, List.length_append, List.length_replicate, List.replicate_succ, List.replicate_zero, List.replicate_one, ← List.map_take, ← List.map_drop, List.drop_zero, List.take_succ_cons, List.take_zero, List.take_nil, List.drop_succ_cons, List.drop_nil, Nat.zero_le, Nat.le_refl, Nat.sub_zero, List.getElem?_cons_succ, List.getElem?_cons_zero, List.getElem?_nil, List.any_cons, List.any_nil, List.all_cons, List.all_nil, List.append_nil, List.nil_append, List.cons_append, List.set_cons_zero, List.set_cons_succ,
    cond_true, cond_false, decide_true, decide_false, Bool.true_and, Bool.and_true, Bool.false_and, Bool.and_false, Bool.true_or, Bool.or_true, Bool.false_or, Bool.or_false, Bool.not_true, Bool.not_false, Bool.and_self, Bool.or_self, bT, bF, ieq, ine, decide_eq_true_eq, decide_not,
    Nat.reduceEqDiff, Nat.reduceAdd, Nat.reduceSub, Nat.reduceMul, Nat.reduceLeDiff, Nat.reduceLT, Nat.zero_add, Nat.add_zero, Option.getD_some, Option.getD_none, Option.isSome_some, Option.isSome_none, reduceIte, reduceCtorEq, and_self, and_true, true_and, not_true_eq_false, not_false_eq_true, false_imp_iff, forall_const, imp_self,
    Int.reduceNeg, Int.reduceLT, Int.reduceLE, Int.reduceAdd, Int.reduceSub, Int.reduceMul, Int.reduceToNat, Int.reduceEq, ne_eq, eq_self, beq_self_eq_true]
  exact ⟨_, rfl, rfl⟩

theorem loop46 (C : Callees) (l : List UInt8) (p : Perm) (B : Hp) : ∀ (m k v : Nat) (st : St), l.length - k = m → k ≤ l.length → k ≤ 9 → v < 128 ^ k → an46.at_ (some 3) st = st46 l (.vec 1 (l.map byteD) p) v k B →
    ∃ x st', loopC T an46 C lp46_0 st = some (x, st') ∧ ∃ ρ, st' = ⟨ρ, [], [], B⟩ ∧ ((x = .ret ∧ get ρ 2 = .int .u64 (getS (l.drop k) k v).1 ∧ get ρ 3 = .int .i64 (getS (l.drop k) k v).2.1 ∧ get ρ 4 = errD (getS (l.drop k) k v).2.2) ∨ (x = .exit 0 ∧ getS (l.drop k) k v = (0, 0, 6))) := by
  intro m
  induction m with
  | zero =>
    intro k v st hm hk h9 hv hst
    obtain rfl : k = l.length := by omega
    obtain ⟨ρ, h⟩ := body46_end C l (.vec 1 (l.map byteD) p) v B
    exact ⟨_, _, loopC_done (by rw [show firstOf lp46_0 = some 3 from rfl, hst]; exact h) (by simp), ρ, rfl, .inr ⟨rfl, by simp [getS]⟩⟩
  | succ m ih =>
    intro k v st hm hk h9 hv hst
    have hkn := List.getElem?_eq_getElem (l := l) (i := k) (by omega)
    rw [List.drop_eq_getElem_cons (by omega : k < l.length)]
    generalize l[k] = c at hkn ⊢
    simp only [getS]
    by_cases hr : k = 9 ∧ 1 < c.toNat
    · obtain ⟨hk9, hc⟩ := hr
      subst hk9
      obtain ⟨ρ, h, hg⟩ := body46_range C l p v B c hkn hc
      refine ⟨_, _, loopC_done (by rw [show firstOf lp46_0 = some 3 from rfl, hst]; exact h) (by simp), ρ, rfl, .inl ⟨rfl, ?_⟩⟩
      rw [if_pos ⟨rfl, hc⟩]; exact hg
    · rw [if_neg hr]
      by_cases hf : c.toNat = 0 ∧ 0 < k
      · obtain ⟨ρ, h, hg⟩ := body46_form C l p v k B c hkn hf.1 hf.2
        refine ⟨_, _, loopC_done (by rw [show firstOf lp46_0 = some 3 from rfl, hst]; exact h) (by simp), ρ, rfl, .inl ⟨rfl, ?_⟩⟩
        rw [if_pos hf]; exact hg
      · rw [if_neg hf]
        by_cases hc : c.toNat < 128
        · obtain ⟨ρ, h, hg⟩ := body46_done C l p v k B c hkn hr hf hc h9 hv
          refine ⟨_, _, loopC_done (by rw [show firstOf lp46_0 = some 3 from rfl, hst]; exact h) (by simp), ρ, rfl, .inl ⟨rfl, ?_⟩⟩
          rw [if_pos hc]; exact hg
        · rw [if_neg hc]
          have hc2 := c.toNat_lt
          obtain ⟨ρ, h, hg⟩ := body46_next C l p v k B c hkn hc (by omega) hv
          have hp : v + (c.toNat - 128) * 128 ^ k < 128 ^ (k + 1) := by
            have : (c.toNat - 128) * 128 ^ k ≤ 127 * 128 ^ k := Nat.mul_le_mul_right _ (by omega)
            rw [Nat.pow_succ]; omega
          obtain ⟨x, st', h4, ρ', h5, h6⟩ := ih (k + 1) _ ⟨ρ, [], [], B⟩ (by omega) (by omega) (by omega) hp hg
          exact ⟨x, st', loopC_next (by rw [show firstOf lp46_0 = some 3 from rfl, hst]; exact h) h4, ρ', h5, h6⟩

def getD3 (l : List UInt8) : D := .tuple [.int .u64 (getS l 0 0).1, .int .i64 (getS l 0 0).2.1, errD (getS l 0 0).2.2]

set_option maxRecDepth 10000 in
theorem run46 (C : Callees) (d : D) (l : List UInt8) (hd : ByD d l) (B : Hp) : runV T C fi46 [d] B = some (getD3 l, B) := by
  rw [e_run _ _ _ rfl]
  rcases hd with ⟨rfl, rfl⟩ | ⟨p, rfl⟩
  · have hend : ∃ ρ, go T an46 C lp46_0 .top (st46 [] .nilsl 0 0 B) = some (.exit 0, ⟨ρ, [], [], B⟩) := body46_end C [] .nilsl 0 B
    obtain ⟨ρ, h⟩ := hend
    simp only [fi46, Tryd.f46, an46, T3, T5, T34, T63, T65, T77, e_seq, e_region, e_dyn, e_dynS, stepD, accs, accP, accW, simpleOp, isAl, isExt, List.flatten_cons, List.flatten_nil, e_block, e_cond, e_ret, e_skip, e_exit, e_plain, e_guard, e_nil, e_op, e_ifT, e_ifF, e_true, e_false, e_loop, e_l, e_top, e_seqN, e_seqE, e_seqR, e_blockN, e_blockR, e_blockE,
    e_finN, e_finX, e_finR, retV, resV, resL, outCL, outC, outL, outD, wantedV, opV, An.at_, prune, List.map_cons, List.map_nil, envOf, get, put, eval, ofV, nbeq, nble, binV, binV.aggV, unV, intV, eqOp, isConst, natV, optV, loadV, loadC, storeV, setC, St.at_, partV, indexAddrV, fieldAddrV, sliceV, sliceV.rowSl, sliceV.strSl, bounds, cutP,
    builtinV, lenV, maxL, maxV, appendV, St.elems, roomy, rowOf, rowS, isStr, esz, tdOf, convV, buildV, fillV, partsV, okParts, fillL, D.whole, D.demoteC, D.demote, demoteL, D.global, D.leaf, D.cells, TI.agg, TD.rowish, callOpV, CC, keepB, St.borrowL, St.borrow, D.isLsl, adoptR, adoptC, adoptCL, adoptL, adopt, upd,
    List.toArray, Array.toList, List.length_cons, List.length_nil, List.length_map, List.length_append, List.length_replicate, List.replicate_succ, List.replicate_zero, List.replicate_one, ← List.map_take, ← List.map_drop, List.drop_zero, List.take_succ_cons, List.take_zero, List.take_nil, List.drop_succ_cons, List.drop_nil, Nat.zero_le, Nat.le_refl, Nat.sub_zero, List.getElem?_cons_succ, List.getElem?_cons_zero, List.getElem?_nil, List.any_cons, List.any_nil, List.all_cons, List.all_nil, List.append_nil, List.nil_append, List.cons_append, List.set_cons_zero, List.set_cons_succ,
    cond_true, cond_false, decide_true, decide_false, Bool.true_and, Bool.and_true, Bool.false_and, Bool.and_false, Bool.true_or, Bool.or_true, Bool.false_or, Bool.or_false, Bool.not_true, Bool.not_false, Bool.and_self, Bool.or_self, bT, bF, ieq, ine, decide_eq_true_eq, decide_not,
    Nat.reduceEqDiff, Nat.reduceAdd, Nat.reduceSub, Nat.reduceMul, Nat.reduceLeDiff, Nat.reduceLT, Nat.zero_add, Nat.add_zero, Option.getD_some, Option.getD_none, Option.isSome_some, Option.isSome_none, reduceIte, reduceCtorEq, and_self, and_true, true_and, not_true_eq_false, not_false_eq_true, false_imp_iff, forall_const, imp_self,
    Int.reduceNeg, Int.reduceLT, Int.reduceLE, Int.reduceAdd, Int.reduceSub, Int.reduceMul, Int.reduceToNat, Int.reduceEq, ne_eq, eq_self, beq_self_eq_true]
    refine' in_loop (c' := lp46_0) (Q := fun x st' => st' = ⟨ρ, [], [], B⟩ ∧ x = .exit 0) (fin T _) ?h rfl ?q
    case h => exact ⟨_, _, loopC_done (by rw [show firstOf lp46_0 = some 3 from rfl]; exact h) (by simp), rfl, rfl⟩
    rintro x st' ⟨rfl, rfl⟩
    simp only [getD3, getS, errD, T3, T5, T34, T63, T65, T77, e_seq, e_region, e_dyn, e_dynS, stepD, accs, accP, accW, simpleOp, isAl, isExt, List.flatten_cons, List.flatten_nil, e_block, e_cond, e_ret, e_skip, e_exit, e_plain, e_guard, e_nil, e_op, e_ifT, e_ifF, e_true, e_false, e_loop, e_l, e_top, e_seqN, e_seqE, e_seqR, e_blockN, e_blockR, e_blockE,
    e_finN, e_finX, e_finR, retV, resV, resL, outCL, outC, outL, outD, wantedV, opV, An.at_, prune, List.map_cons, List.map_nil, envOf, get, put, eval, ofV, nbeq, nble, binV, binV.aggV, unV, intV, eqOp, isConst, natV, optV, loadV, loadC, storeV, setC, St.at_, partV, indexAddrV, fieldAddrV, sliceV, sliceV.rowSl, sliceV.strSl, bounds, cutP,
    builtinV, lenV, maxL, maxV, appendV, St.elems, roomy, rowOf, rowS, isStr, esz, tdOf, convV, buildV, fillV, partsV, okParts, fillL, D.whole, D.demoteC, D.demote, demoteL, D.global, D.leaf, D.cells, TI.agg, TD.rowish, callOpV, CC, keepB, St.borrowL, St.borrow, D.isLsl, adoptR, adoptC, adoptCL, adoptL, adopt, upd,
    List.toArray, Array.toList, List.length_cons, List.length_nil, List.length_map, List.length_append, List.length_replicate, List.replicate_succ, List.replicate_zero, List.replicate_one, ← List.map_take, ← List.map_drop, List.drop_zero, List.take_succ_cons, List.take_zero, List.take_nil, List.drop_succ_cons, List.drop_nil, Nat.zero_le, Nat.le_refl, Nat.sub_zero, List.getElem?_cons_succ, List.getElem?_cons_zero, List.getElem?_nil, List.any_cons, List.any_nil, List.all_cons, List.all_nil, List.append_nil, List.nil_append, List.cons_append, List.set_cons_zero, List.set_cons_succ,
    cond_true, cond_false, decide_true, decide_false, Bool.true_and, Bool.and_true, Bool.false_and, Bool.and_false, Bool.true_or, Bool.or_true, Bool.false_or, Bool.or_false, Bool.not_true, Bool.not_false, Bool.and_self, Bool.or_self, bT, bF, ieq, ine, decide_eq_true_eq, decide_not,
    Nat.reduceEqDiff, Nat.reduceAdd, Nat.reduceSub, Nat.reduceMul, Nat.reduceLeDiff, Nat.reduceLT, Nat.zero_add, Nat.add_zero, Option.getD_some, Option.getD_none, Option.isSome_some, Option.isSome_none, reduceIte, reduceCtorEq, and_self, and_true, true_and, not_true_eq_false, not_false_eq_true, false_imp_iff, forall_const, imp_self,
    Int.reduceNeg, Int.reduceLT, Int.reduceLE, Int.reduceAdd, Int.reduceSub, Int.reduceMul, Int.reduceToNat, Int.reduceEq, ne_eq, eq_self, beq_self_eq_true]
    rfl
  · simp only [fi46, Tryd.f46, an46, T3, T5, T34, T63, T65, T77, e_seq, e_region, e_dyn, e_dynS, stepD, accs, accP, accW, simpleOp, isAl, isExt, List.flatten_cons, List.flatten_nil, e_block, e_cond, e_ret, e_skip, e_exit, e_plain, e_guard, e_nil, e_op, e_ifT, e_ifF, e_true, e_false, e_loop, e_l, e_top, e_seqN, e_seqE, e_seqR, e_blockN, e_blockR, e_blockE,
    e_finN, e_finX, e_finR, retV, resV, resL, outCL, outC, outL, outD, wantedV, opV, An.at_, prune, List.map_cons, List.map_nil, envOf, get, put, eval, ofV, nbeq, nble, binV, binV.aggV, unV, intV, eqOp, isConst, natV, optV, loadV, loadC, storeV, setC, St.at_, partV, indexAddrV, fieldAddrV, sliceV, sliceV.rowSl, sliceV.strSl, bounds, cutP,
    builtinV, lenV, maxL, maxV, appendV, St.elems, roomy, rowOf, rowS, isStr, esz, tdOf, convV, buildV, fillV, partsV, okParts, fillL, D.whole, D.demoteC, D.demote, demoteL, D.global, D.leaf, D.cells, TI.agg, TD.rowish, callOpV, CC, keepB, St.borrowL, St.borrow, D.isLsl, adoptR, adoptC, adoptCL, adoptL, adopt, upd,
    List.toArray, Array.toList, List.length_cons, List.length_nil, List.length_map, List.length_append, List.length_replicate, List.replicate_succ, List.replicate_zero, List.replicate_one, ← List.map_take, ← List.map_drop, List.drop_zero, List.take_succ_cons, List.take_zero, List.take_nil, List.drop_succ_cons, List.drop_nil, Nat.zero_le, Nat.le_refl, Nat.sub_zero, List.getElem?_cons_succ, List.getElem?_cons_zero, List.getElem?_nil, List.any_cons, List.any_nil, List.all_cons, List.all_nil, List.append_nil, List.nil_append, List.cons_append, List.set_cons_zero, List.set_cons_succ,
    cond_true, cond_false, decide_true, decide_false, Bool.true_and, Bool.and_true, Bool.false_and, Bool.and_false, Bool.true_or, Bool.or_true, Bool.false_or, Bool.or_false, Bool.not_true, Bool.not_false, Bool.and_self, Bool.or_self, bT, bF, ieq, ine, decide_eq_true_eq, decide_not,
    Nat.reduceEqDiff, Nat.reduceAdd, Nat.reduceSub, Nat.reduceMul, Nat.reduceLeDiff, Nat.reduceLT, Nat.zero_add, Nat.add_zero, Option.getD_some, Option.getD_none, Option.isSome_some, Option.isSome_none, reduceIte, reduceCtorEq, and_self, and_true, true_and, not_true_eq_false, not_false_eq_true, false_imp_iff, forall_const, imp_self,
    Int.reduceNeg, Int.reduceLT, Int.reduceLE, Int.reduceAdd, Int.reduceSub, Int.reduceMul, Int.reduceToNat, Int.reduceEq, ne_eq, eq_self, beq_self_eq_true]
    refine' in_loop (c' := lp46_0) (fin T _) ?h2 rfl ?q2
    case h2 => exact loop46 C l p B l.length 0 0 _ rfl (by omega) (by omega) (by simp) rfl
    rintro x st' ⟨ρ, rfl, ⟨rfl, hg1, hg2, hg3⟩ | ⟨rfl, hg⟩⟩
    · rw [List.drop_zero] at hg1 hg2 hg3
      have ho : outC ([] : List Bool) (errD (getS l 0 0).2.2) = some (errD (getS l 0 0).2.2, []) := by unfold errD; split <;> rfl
      have hout : outCL ([] : List Bool) [.int .u64 (getS l 0 0).1, .int .i64 (getS l 0 0).2.1, errD (getS l 0 0).2.2] = some ([.int .u64 (getS l 0 0).1, .int .i64 (getS l 0 0).2.1, errD (getS l 0 0).2.2], []) := by
        have a1 : ∀ z : Int, outC ([] : List Bool) (.int .u64 z) = some (.int .u64 z, []) := fun _ => rfl
        have a2 : ∀ z : Int, outC ([] : List Bool) (.int .i64 z) = some (.int .i64 z, []) := fun _ => rfl
        simp only [outCL, a1, a2, ho]
      simp only [hg1, hg2, hg3, hout, getD3, T3, T5, T34, T63, T65, T77, e_seq, e_region, e_dyn, e_dynS, stepD, accs, accP, accW, simpleOp, isAl, isExt, List.flatten_cons, List.flatten_nil, e_block, e_cond, e_ret, e_skip, e_exit, e_plain, e_guard, e_nil, e_op, e_ifT, e_ifF, e_true, e_false, e_loop, e_l, e_top, e_seqN, e_seqE, e_seqR, e_blockN, e_blockR, e_blockE,
    e_finN, e_finX, e_finR, retV, resV, resL, outC, outL, outD, wantedV, opV, An.at_, prune, List.map_cons, List.map_nil, envOf, get, put, eval, ofV, nbeq, nble, binV, binV.aggV, unV, intV, eqOp, isConst, natV, optV, loadV, loadC, storeV, setC, St.at_, partV, indexAddrV, fieldAddrV, sliceV, sliceV.rowSl, sliceV.strSl, bounds, cutP,
    builtinV, lenV, maxL, maxV, appendV, St.elems, roomy, rowOf, rowS, isStr, esz, tdOf, convV, buildV, fillV, partsV, okParts, fillL, D.whole, D.demoteC, D.demote, demoteL, D.global, D.leaf, D.cells, TI.agg, TD.rowish, callOpV, CC, keepB, St.borrowL, St.borrow, D.isLsl, adoptR, adoptC, adoptCL, adoptL, adopt, upd,
    List.toArray, Array.toList, List.length_cons, List.length_nil, List.length_map, List.length_append, List.length_replicate, List.replicate_succ, List.replicate_zero, List.replicate_one, ← List.map_take, ← List.map_drop, List.drop_zero, List.take_succ_cons, List.take_zero, List.take_nil, List.drop_succ_cons, List.drop_nil, Nat.zero_le, Nat.le_refl, Nat.sub_zero, List.getElem?_cons_succ, List.getElem?_cons_zero, List.getElem?_nil, List.any_cons, List.any_nil, List.all_cons, List.all_nil, List.append_nil, List.nil_append, List.cons_append, List.set_cons_zero, List.set_cons_succ,
    cond_true, cond_false, decide_true, decide_false, Bool.true_and, Bool.and_true, Bool.false_and, Bool.and_false, Bool.true_or, Bool.or_true, Bool.false_or, Bool.or_false, Bool.not_true, Bool.not_false, Bool.and_self, Bool.or_self, bT, bF, ieq, ine, decide_eq_true_eq, decide_not,
    Nat.reduceEqDiff, Nat.reduceAdd, Nat.reduceSub, Nat.reduceMul, Nat.reduceLeDiff, Nat.reduceLT, Nat.zero_add, Nat.add_zero, Option.getD_some, Option.getD_none, Option.isSome_some, Option.isSome_none, reduceIte, reduceCtorEq, and_self, and_true, true_and, not_true_eq_false, not_false_eq_true, false_imp_iff, forall_const, imp_self,
    Int.reduceNeg, Int.reduceLT, Int.reduceLE, Int.reduceAdd, Int.reduceSub, Int.reduceMul, Int.reduceToNat, Int.reduceEq, ne_eq, eq_self, beq_self_eq_true]
    · rw [List.drop_zero] at hg
      simp only [getD3, hg, errD, T3, T5, T34, T63, T65, T77, e_seq, e_region, e_dyn, e_dynS, stepD, accs, accP, accW, simpleOp, isAl, isExt, List.flatten_cons, List.flatten_nil, e_block, e_cond, e_ret, e_skip, e_exit, e_plain, e_guard, e_nil, e_op, e_ifT, e_ifF, e_true, e_false, e_loop, e_l, e_top, e_seqN, e_seqE, e_seqR, e_blockN, e_blockR, e_blockE,
    e_finN, e_finX, e_finR, retV, resV, resL, outCL, outC, outL, outD, wantedV, opV, An.at_, prune, List.map_cons, List.map_nil, envOf, get, put, eval, ofV, nbeq, nble, binV, binV.aggV, unV, intV, eqOp, isConst, natV, optV, loadV, loadC, storeV, setC, St.at_, partV, indexAddrV, fieldAddrV, sliceV, sliceV.rowSl, sliceV.strSl, bounds, cutP,
    builtinV, lenV, maxL, maxV, appendV, St.elems, roomy, rowOf, rowS, isStr, esz, tdOf, convV, buildV, fillV, partsV, okParts, fillL, D.whole, D.demoteC, D.demote, demoteL, D.global, D.leaf, D.cells, TI.agg, TD.rowish, callOpV, CC, keepB, St.borrowL, St.borrow, D.isLsl, adoptR, adoptC, adoptCL, adoptL, adopt, upd,
    List.toArray, Array.toList, List.length_cons, List.length_nil, List.length_map, List.length_append, List.length_replicate, List.replicate_succ, List.replicate_zero, List.replicate_one, ← List.map_take, ← List.map_drop, List.drop_zero, List.take_succ_cons, List.take_zero, List.take_nil, List.drop_succ_cons, List.drop_nil, Nat.zero_le, Nat.le_refl, Nat.sub_zero, List.getElem?_cons_succ, List.getElem?_cons_zero, List.getElem?_nil, List.any_cons, List.any_nil, List.all_cons, List.all_nil, List.append_nil, List.nil_append, List.cons_append, List.set_cons_zero, List.set_cons_succ,
    cond_true, cond_false, decide_true, decide_false, Bool.true_and, Bool.and_true, Bool.false_and, Bool.and_false, Bool.true_or, Bool.or_true, Bool.false_or, Bool.or_false, Bool.not_true, Bool.not_false, Bool.and_self, Bool.or_self, bT, bF, ieq, ine, decide_eq_true_eq, decide_not,
    Nat.reduceEqDiff, Nat.reduceAdd, Nat.reduceSub, Nat.reduceMul, Nat.reduceLeDiff, Nat.reduceLT, Nat.zero_add, Nat.add_zero, Option.getD_some, Option.getD_none, Option.isSome_some, Option.isSome_none, reduceIte, reduceCtorEq, and_self, and_true, true_and, not_true_eq_false, not_false_eq_true, false_imp_iff, forall_const, imp_self,
    Int.reduceNeg, Int.reduceLT, Int.reduceLE, Int.reduceAdd, Int.reduceSub, Int.reduceMul, Int.reduceToNat, Int.reduceEq, ne_eq, eq_self, beq_self_eq_true]
      rfl

end Go.Proofs.YtdmlojinmkcldaaDoor.V
