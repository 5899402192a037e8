/-
The place of the highest bit.
-/
import Derived.Test.YtdmlojinmkcldaaDoorJD
import Derived.Test.YtdmlojinmkcldaaDoorWL
namespace Go.Proofs.YtdmlojinmkcldaaDoor.V
open Go Go.RowKit
set_option linter.unusedSimpArgs false
set_option linter.unusedVariables false

/-! warren/ints.Highest -/
def an63 : An := ⟨fun | 3 => some [0, 3, 4] | _ => .none, fun _ => false, fun _ => false⟩
noncomputable def fi63 : FI := ⟨1, 24, Tryd.f63.body.getD .skip, Tryd.f63.results.toList, an63⟩
theorem ok63 : FnOk Tryd.prog 63 fi63 := ⟨⟨Tryd.f63, Tryd.func63, by kernel_rfl, rfl, rfl, rfl⟩, by decide, by kernel_rfl⟩
noncomputable def lp63_0 : Code := subC [1, 1, 0, 1, 0, 0] (Tryd.f63.body.getD .skip)   -- keep [0, 3, 4]

def st63 (v : Nat) (n : Int) (s : Nat) (B : Hp) : St := ⟨[(0, .int .u64 v), (3, .int .i64 n), (4, .int .u64 s)], [], [], B⟩

set_option maxRecDepth 10000 in
theorem body63_end (C : Callees) (v : Nat) (n : Int) (B : Hp) :
    ∃ ρ, go T an63 C lp63_0 .top (st63 v n 0 B) = some (.exit 0, ⟨ρ, [], [], B⟩) ∧ get ρ 0 = .int .u64 v ∧ get ρ 3 = .int .i64 n := by
  have h : ¬ ((0 : Nat) : Int) > 0 := by decide
  simp only [st63, lp63_0, subC, atC, Tryd.f63, an63, h, T3, T63, T65, e_seq, e_region, e_dyn, e_dynS, stepD, accs, accP, accW, simpleOp, isAl, isExt, List.flatten_cons, List.flatten_nil, e_block, e_cond, e_ret, e_skip, e_exit, e_plain, e_guard, e_nil, e_op, e_ifT, e_ifF, e_true, e_false, e_loop, e_l, e_top, e_seqN, e_seqE, e_seqR, e_blockN, e_blockR, e_blockE,
    e_finN, e_finX, e_finR, retV, resV, resL, outCL, outC, outL, outD, wantedV, opV, An.at_, prune, List.map_cons, List.map_nil, envOf, get, put, eval, ofV, nbeq, nble, binV, binV.aggV, unV, intV, eqOp, isConst, natV, optV, loadV, loadC, storeV, setC, St.at_, partV, indexAddrV, fieldAddrV, sliceV, sliceV.rowSl, sliceV.strSl, bounds, cutP,
    builtinV, lenV, maxL, maxV, appendV, St.elems, roomy, rowOf, rowS, isStr, esz, tdOf, convV, buildV, fillV, partsV, okParts, fillL, D.whole, D.demoteC, D.demote, demoteL, D.global, D.leaf, D.cells, TI.agg, TD.rowish, callOpV, CC, keepB, St.borrowL, St.borrow, D.isLsl, adoptR, adoptC, adoptCL, adoptL, adopt, upd,
    List.toArray, Array.toList, List.length_cons, List.length_nil, List.length_map, List.length_append, List.length_replicate, List.replicate_succ, List.replicate_zero, List.replicate_one, ← List.map_take, ← List.map_drop, List.drop_zero, List.take_succ_cons, List.take_zero, List.take_nil, List.drop_succ_cons, List.drop_nil, Nat.zero_le, Nat.le_refl, Nat.sub_zero, List.getElem?_cons_succ, List.getElem?_cons_zero, List.getElem?_nil, List.any_cons, List.any_nil, List.all_cons, List.all_nil, List.append_nil, List.nil_append, List.cons_append, List.set_cons_zero, List.set_cons_succ,
    cond_true, cond_false, decide_true, decide_false, Bool.true_and, Bool.and_true, Bool.false_and, Bool.and_false, Bool.true_or, Bool.or_true, Bool.false_or, Bool.or_false, Bool.not_true, Bool.not_false, Bool.and_self, Bool.or_self, bT, bF, ieq, ine, decide_eq_true_eq, decide_not,
    Nat.reduceEqDiff, Nat.reduceAdd, Nat.reduceSub, Nat.reduceMul, Nat.reduceLeDiff, Nat.reduceLT, Nat.zero_add, Nat.add_zero, Option.getD_some, Option.getD_none, Option.isSome_some, Option.isSome_none, reduceIte, reduceCtorEq, and_self, and_true, true_and, not_true_eq_false, not_false_eq_true, false_imp_iff, forall_const, imp_self,
    Int.reduceNeg, Int.reduceLT, Int.reduceLE, Int.reduceGT, Int.reduceGE, Int.reduceAdd, Int.reduceSub, Int.reduceMul, Int.reduceToNat, Int.reduceEq, ne_eq, eq_self, beq_self_eq_true]
  exact ⟨_, rfl, rfl, rfl⟩

set_option maxRecDepth 10000 in
theorem body63_ok (C : Callees) (v : Nat) (n : Int) (s : Nat) (B : Hp) (hs : 0 < s) (h32 : s ≤ 32) (hn : -1 ≤ n) (hn2 : n ≤ 1000) :
    ∃ ρ, go T an63 C lp63_0 .top (st63 v n s B) = some (.norm, ⟨ρ, [], [], B⟩) ∧ an63.at_ (some 3) ⟨ρ, [], [], B⟩ =
      st63 (if 2 ^ s ≤ v then v / 2 ^ s else v) (if 2 ^ s ≤ v then n + s else n) (s / 2) B := by
  have h1 : (s : Int) > 0 := by omega
  have h2 := shr_nat .u64 v s (by show s ≤ 64; omega)
  have h3 : shrV .u64 (s : Int) 1 = ((s / 2 : Nat) : Int) := shr_nat .u64 s 1 (by decide)
  have h4 : IntKind.i64.wrap (s : Int) = s := wrapI (by omega) (by omega)
  have h5 : IntKind.i64.wrap (n + s) = n + s := wrapI (by omega) (by omega)
  have h0 : ¬ (s : Int) < 0 := by omega
  by_cases hv : 2 ^ s ≤ v
  · have h6 : 0 < v / 2 ^ s := Nat.div_pos hv (Nat.pow_pos (by decide))
    generalize v / 2 ^ s = w at h2 h6 ⊢
    have h7 : ¬ (w : Int) = 0 := by omega
    rw [if_pos hv, if_pos hv]
    simp only [st63, lp63_0, subC, atC, Tryd.f63, an63, h0, h1, h2, h3, h4, h5, h7, T3, T63, T65, e_seq, e_region, e_dyn, e_dynS, stepD, accs, accP, accW, simpleOp, isAl, isExt, List.flatten_cons, List.flatten_nil, e_block, e_cond, e_ret, e_skip, e_exit, e_plain, e_guard, e_nil, e_op, e_ifT, e_ifF, e_true, e_false, e_loop, e_l, e_top, e_seqN, e_seqE, e_seqR, e_blockN, e_blockR, e_blockE,
    e_finN, e_finX, e_finR, retV, resV, resL, outCL, outC, outL, outD, wantedV, opV, An.at_, prune, List.map_cons, List.map_nil, envOf, get, put, eval, ofV, nbeq, nble, binV, binV.aggV, unV, intV, eqOp, isConst, natV, optV, loadV, loadC, storeV, setC, St.at_, partV, indexAddrV, fieldAddrV, sliceV, sliceV.rowSl, sliceV.strSl, bounds, cutP,
    builtinV, lenV, maxL, maxV, appendV, St.elems, roomy, rowOf, rowS, isStr, esz, tdOf, convV, buildV, fillV, partsV, okParts, fillL, D.whole, D.demoteC, D.demote, demoteL, D.global, D.leaf, D.cells, TI.agg, TD.rowish, callOpV, CC, keepB, St.borrowL, St.borrow, D.isLsl, adoptR, adoptC, adoptCL, adoptL, adopt, upd,
    List.toArray, Array.toList, List.length_cons, List.length_nil, List.length_map, List.length_append, List.length_replicate, List.replicate_succ, List.replicate_zero, List.replicate_one, ← List.map_take, ← List.map_drop, List.drop_zero, List.take_succ_cons, List.take_zero, List.take_nil, List.drop_succ_cons, List.drop_nil, Nat.zero_le, Nat.le_refl, Nat.sub_zero, List.getElem?_cons_succ, List.getElem?_cons_zero, List.getElem?_nil, List.any_cons, List.any_nil, List.all_cons, List.all_nil, List.append_nil, List.nil_append, List.cons_append, List.set_cons_zero, List.set_cons_succ,
    cond_true, cond_false, decide_true, decide_false, Bool.true_and, Bool.and_true, Bool.false_and, Bool.and_false, Bool.true_or, Bool.or_true, Bool.false_or, Bool.or_false, Bool.not_true, Bool.not_false, Bool.and_self, Bool.or_self, bT, bF, ieq, ine, decide_eq_true_eq, decide_not,
    Nat.reduceEqDiff, Nat.reduceAdd, Nat.reduceSub, Nat.reduceMul, Nat.reduceLeDiff, Nat.reduceLT, Nat.zero_add, Nat.add_zero, Option.getD_some, Option.getD_none, Option.isSome_some, Option.isSome_none, reduceIte, reduceCtorEq, and_self, and_true, true_and, not_true_eq_false, not_false_eq_true, false_imp_iff, forall_const, imp_self,
    Int.reduceNeg, Int.reduceLT, Int.reduceLE, Int.reduceGT, Int.reduceGE, Int.reduceAdd, Int.reduceSub, Int.reduceMul, Int.reduceToNat, Int.reduceEq, ne_eq, eq_self, beq_self_eq_true]
    exact ⟨_, rfl, rfl⟩
  · have h6 : v / 2 ^ s = 0 := Nat.div_eq_of_lt (by omega)
    rw [if_neg hv, if_neg hv]
    rw [h6] at h2
    have h2 : shrV .u64 (v : Int) s = 0 := h2
    simp only [st63, lp63_0, subC, atC, Tryd.f63, an63, h0, h1, h2, h3, h4, h5, T3, T63, T65, e_seq, e_region, e_dyn, e_dynS, stepD, accs, accP, accW, simpleOp, isAl, isExt, List.flatten_cons, List.flatten_nil, e_block, e_cond, e_ret, e_skip, e_exit, e_plain, e_guard, e_nil, e_op, e_ifT, e_ifF, e_true, e_false, e_loop, e_l, e_top, e_seqN, e_seqE, e_seqR, e_blockN, e_blockR, e_blockE,
    e_finN, e_finX, e_finR, retV, resV, resL, outCL, outC, outL, outD, wantedV, opV, An.at_, prune, List.map_cons, List.map_nil, envOf, get, put, eval, ofV, nbeq, nble, binV, binV.aggV, unV, intV, eqOp, isConst, natV, optV, loadV, loadC, storeV, setC, St.at_, partV, indexAddrV, fieldAddrV, sliceV, sliceV.rowSl, sliceV.strSl, bounds, cutP,
    builtinV, lenV, maxL, maxV, appendV, St.elems, roomy, rowOf, rowS, isStr, esz, tdOf, convV, buildV, fillV, partsV, okParts, fillL, D.whole, D.demoteC, D.demote, demoteL, D.global, D.leaf, D.cells, TI.agg, TD.rowish, callOpV, CC, keepB, St.borrowL, St.borrow, D.isLsl, adoptR, adoptC, adoptCL, adoptL, adopt, upd,
    List.toArray, Array.toList, List.length_cons, List.length_nil, List.length_map, List.length_append, List.length_replicate, List.replicate_succ, List.replicate_zero, List.replicate_one, ← List.map_take, ← List.map_drop, List.drop_zero, List.take_succ_cons, List.take_zero, List.take_nil, List.drop_succ_cons, List.drop_nil, Nat.zero_le, Nat.le_refl, Nat.sub_zero, List.getElem?_cons_succ, List.getElem?_cons_zero, List.getElem?_nil, List.any_cons, List.any_nil, List.all_cons, List.all_nil, List.append_nil, List.nil_append, List.cons_append, List.set_cons_zero, List.set_cons_succ,
    cond_true, cond_false, decide_true, decide_false, Bool.true_and, Bool.and_true, Bool.false_and, Bool.and_false, Bool.true_or, Bool.or_true, Bool.false_or, Bool.or_false, Bool.not_true, Bool.not_false, Bool.and_self, Bool.or_self, bT, bF, ieq, ine, decide_eq_true_eq, decide_not,
    Nat.reduceEqDiff, Nat.reduceAdd, Nat.reduceSub, Nat.reduceMul, Nat.reduceLeDiff, Nat.reduceLT, Nat.zero_add, Nat.add_zero, Option.getD_some, Option.getD_none, Option.isSome_some, Option.isSome_none, reduceIte, reduceCtorEq, and_self, and_true, true_and, not_true_eq_false, not_false_eq_true, false_imp_iff, forall_const, imp_self,
    Int.reduceNeg, Int.reduceLT, Int.reduceLE, Int.reduceGT, Int.reduceGE, Int.reduceAdd, Int.reduceSub, Int.reduceMul, Int.reduceToNat, Int.reduceEq, ne_eq, eq_self, beq_self_eq_true]
    exact ⟨_, rfl, rfl⟩

theorem loop63 (C : Callees) (B : Hp) : ∀ (m v : Nat) (n : Int) (st : St), v < 2 ^ 2 ^ m → m ≤ 6 → -1 ≤ n → n + 2 ^ m ≤ 70 → an63.at_ (some 3) st = st63 v n (2 ^ m / 2) B →
    ∃ x st', loopC T an63 C lp63_0 st = some (x, st') ∧ ∃ (ρ : Env) (w : Nat) (k : Int), st' = ⟨ρ, [], [], B⟩ ∧ x = .exit 0 ∧ get ρ 0 = .int .u64 w ∧ get ρ 3 = .int .i64 k ∧ w < 2 ∧ -1 ≤ k ∧ k ≤ 70 ∧ k + w = n + bitsN v := by
  intro m
  induction m with
  | zero =>
    intro v n st hv _ hn hn2 hst
    obtain ⟨ρ, h, hg1, hg2⟩ := body63_end C v n B
    have hv2 : v < 2 := hv
    refine ⟨_, _, loopC_done (by rw [show firstOf lp63_0 = some 3 from rfl, hst]; exact h) (by simp), ρ, v, n, rfl, rfl, hg1, hg2, hv2, hn, by omega, ?_⟩
    rcases (by omega : v = 0 ∨ v = 1) with rfl | rfl
    · rw [bitsN_zero]
    · rw [bitsN_one]
  | succ m ih =>
    intro v n st hv hm hn hn2 hst
    have hp : (2 : Nat) ^ (m + 1) / 2 = 2 ^ m := by rw [Nat.pow_succ]; omega
    have hp1 : 0 < (2 : Nat) ^ m := Nat.pow_pos (by decide)
    have hp2 : (2 : Nat) ^ m ≤ 2 ^ 5 := Nat.pow_le_pow_right (by decide) (by omega)
    have hp3 : ((2 ^ m : Nat) : Int) = 2 ^ m := by rw [Int.natCast_pow]; rfl
    have hn3 : n + 2 * 2 ^ m ≤ 70 := by rw [Int.pow_succ] at hn2; omega
    rw [hp] at hst
    obtain ⟨ρ, h, hg⟩ := body63_ok C v n (2 ^ m) B hp1 (by omega) hn (by omega)
    have hv' : v < 2 ^ 2 ^ m * 2 ^ 2 ^ m := by
      rw [← Nat.pow_add, ← Nat.two_mul, Nat.mul_comm, ← Nat.pow_succ]; exact hv
    obtain ⟨x, st', h4, ρ', w, k, h5, h6, h7, h8, h9, h10, h11, h12⟩ := ih (if 2 ^ 2 ^ m ≤ v then v / 2 ^ 2 ^ m else v) (if 2 ^ 2 ^ m ≤ v then n + (2 ^ m : Nat) else n) ⟨ρ, [], [], B⟩
      (by split
          · exact Nat.div_lt_of_lt_mul hv'
          · omega) (by omega) (by split <;> omega) (by split <;> omega) hg
    refine ⟨x, st', loopC_next (by rw [show firstOf lp63_0 = some 3 from rfl, hst]; exact h) h4, ρ', w, k, h5, h6, h7, h8, h9, h10, h11, ?_⟩
    rw [h12]
    by_cases hb : 2 ^ 2 ^ m ≤ v
    · rw [if_pos hb, if_pos hb, bitsN_div hb]; omega
    · rw [if_neg hb, if_neg hb]

set_option maxRecDepth 10000 in
theorem run63 (C : Callees) (v : Nat) (hv : v < 18446744073709551616) (B : Hp) : runV T C fi63 [.int .u64 v] B = some (.int .i64 ((bitsN v : Int) - 1), B) := by
  rw [e_run _ _ _ rfl]
  simp only [fi63, Tryd.f63, an63, T3, T63, T65, e_seq, e_region, e_dyn, e_dynS, stepD, accs, accP, accW, simpleOp, isAl, isExt, List.flatten_cons, List.flatten_nil, e_block, e_cond, e_ret, e_skip, e_exit, e_plain, e_guard, e_nil, e_op, e_ifT, e_ifF, e_true, e_false, e_loop, e_l, e_top, e_seqN, e_seqE, e_seqR, e_blockN, e_blockR, e_blockE,
    e_finN, e_finX, e_finR, retV, resV, resL, outCL, outC, outL, outD, wantedV, opV, An.at_, prune, List.map_cons, List.map_nil, envOf, get, put, eval, ofV, nbeq, nble, binV, binV.aggV, unV, intV, eqOp, isConst, natV, optV, loadV, loadC, storeV, setC, St.at_, partV, indexAddrV, fieldAddrV, sliceV, sliceV.rowSl, sliceV.strSl, bounds, cutP,
    builtinV, lenV, maxL, maxV, appendV, St.elems, roomy, rowOf, rowS, isStr, esz, tdOf, convV, buildV, fillV, partsV, okParts, fillL, D.whole, D.demoteC, D.demote, demoteL, D.global, D.leaf, D.cells, TI.agg, TD.rowish, callOpV, CC, keepB, St.borrowL, St.borrow, D.isLsl, adoptR, adoptC, adoptCL, adoptL, adopt, upd,
    List.toArray, Array.toList, List.length_cons, List.length_nil, List.length_map, List.length_append, List.length_replicate, List.replicate_succ, List.replicate_zero, List.replicate_one, ← List.map_take, ← List.map_drop, List.drop_zero, List.take_succ_cons, List.take_zero, List.take_nil, List.drop_succ_cons, List.drop_nil, Nat.zero_le, Nat.le_refl, Nat.sub_zero, List.getElem?_cons_succ, List.getElem?_cons_zero, List.getElem?_nil, List.any_cons, List.any_nil, List.all_cons, List.all_nil, List.append_nil, List.nil_append, List.cons_append, List.set_cons_zero, List.set_cons_succ,
    cond_true, cond_false, decide_true, decide_false, Bool.true_and, Bool.and_true, Bool.false_and, Bool.and_false, Bool.true_or, Bool.or_true, Bool.false_or, Bool.or_false, Bool.not_true, Bool.not_false, Bool.and_self, Bool.or_self, bT, bF, ieq, ine, decide_eq_true_eq, decide_not,
    Nat.reduceEqDiff, Nat.reduceAdd, Nat.reduceSub, Nat.reduceMul, Nat.reduceLeDiff, Nat.reduceLT, Nat.zero_add, Nat.add_zero, Option.getD_some, Option.getD_none, Option.isSome_some, Option.isSome_none, reduceIte, reduceCtorEq, and_self, and_true, true_and, not_true_eq_false, not_false_eq_true, false_imp_iff, forall_const, imp_self,
    Int.reduceNeg, Int.reduceLT, Int.reduceLE, Int.reduceGT, Int.reduceGE, Int.reduceAdd, Int.reduceSub, Int.reduceMul, Int.reduceToNat, Int.reduceEq, ne_eq, eq_self, beq_self_eq_true]
  refine' in_loop (c' := lp63_0) (fin T _) ?h rfl ?q
  case h => exact loop63 C B 6 v (-1) _ hv (by omega) (by omega) (by decide) rfl
  rintro x st' ⟨ρ, w, k, rfl, rfl, hg1, hg2, hw, hk, hk2, hsum⟩
  have h1 : IntKind.i64.wrap (w : Int) = w := wrapI (by omega) (by omega)
  have h2 : IntKind.i64.wrap (k + w) = (bitsN v : Int) - 1 := by rw [wrapI (by omega) (by omega)]; omega
  simp only [hg1, hg2, h1, h2, T3, T63, T65, e_seq, e_region, e_dyn, e_dynS, stepD, accs, accP, accW, simpleOp, isAl, isExt, List.flatten_cons, List.flatten_nil, e_block, e_cond, e_ret, e_skip, e_exit, e_plain, e_guard, e_nil, e_op, e_ifT, e_ifF, e_true, e_false, e_loop, e_l, e_top, e_seqN, e_seqE, e_seqR, e_blockN, e_blockR, e_blockE,
    e_finN, e_finX, e_finR, retV, resV, resL, outCL, outC, outL, outD, wantedV, opV, An.at_, prune, List.map_cons, List.map_nil, envOf, get, put, eval, ofV, nbeq, nble, binV, binV.aggV, unV, intV, eqOp, isConst, natV, optV, loadV, loadC, storeV, setC, St.at_, partV, indexAddrV, fieldAddrV, sliceV, sliceV.rowSl, sliceV.strSl, bounds, cutP,
    builtinV, lenV, maxL, maxV, appendV, St.elems, roomy, rowOf, rowS, isStr, esz, tdOf, convV, buildV, fillV, partsV, okParts, fillL, D.whole, D.demoteC, D.demote, demoteL, D.global, D.leaf, D.cells, TI.agg, TD.rowish, callOpV, CC, keepB, St.borrowL, St.borrow, D.isLsl, adoptR, adoptC, adoptCL, adoptL, adopt, upd,
    List.toArray, Array.toList, List.length_cons, List.length_nil, List.length_map, List.length_append, List.length_replicate, List.replicate_succ, List.replicate_zero, List.replicate_one, ← List.map_take, ← List.map_drop, List.drop_zero, List.take_succ_cons, List.take_zero, List.take_nil, List.drop_succ_cons, List.drop_nil, Nat.zero_le, Nat.le_refl, Nat.sub_zero, List.getElem?_cons_succ, List.getElem?_cons_zero, List.getElem?_nil, List.any_cons, List.any_nil, List.all_cons, List.all_nil, List.append_nil, List.nil_append, List.cons_append, List.set_cons_zero, List.set_cons_succ,
    cond_true, cond_false, decide_true, decide_false, Bool.true_and, Bool.and_true, Bool.false_and, Bool.and_false, Bool.true_or, Bool.or_true, Bool.false_or, Bool.or_false, Bool.not_true, Bool.not_false, Bool.and_self, Bool.or_self, bT, bF, ieq, ine, decide_eq_true_eq, decide_not,
    Nat.reduceEqDiff, Nat.reduceAdd, Nat.reduceSub, Nat.reduceMul, Nat.reduceLeDiff, Nat.reduceLT, Nat.zero_add, Nat.add_zero, Option.getD_some, Option.getD_none, Option.isSome_some, Option.isSome_none, reduceIte, reduceCtorEq, and_self, and_true, true_and, not_true_eq_false, not_false_eq_true, false_imp_iff, forall_const, imp_self,
    Int.reduceNeg, Int.reduceLT, Int.reduceLE, Int.reduceGT, Int.reduceGE, Int.reduceAdd, Int.reduceSub, Int.reduceMul, Int.reduceToNat, Int.reduceEq, ne_eq, eq_self, beq_self_eq_true]

end Go.Proofs.YtdmlojinmkcldaaDoor.V
