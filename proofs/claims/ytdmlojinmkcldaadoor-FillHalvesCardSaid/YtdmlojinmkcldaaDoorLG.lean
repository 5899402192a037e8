/-
Layer 11: FillHalves: its loops.
-/
import Derived.Test.YtdmlojinmkcldaaDoorLD
namespace Go.Proofs.YtdmlojinmkcldaaDoor.V
open Go Go.RowKit
set_option linter.unusedSimpArgs false
set_option linter.unusedVariables false

/-! warren/warrenlaw11.FillHalves -/
def an4 : An := ⟨fun | 4 => some [0, 3, 4, 5] | 16 => some [3, 4, 7, 9, 10] | 23 => some [3, 4, 9, 11, 12] | _ => .none, fun _ => false⟩
noncomputable def fi4 : FI := ⟨1, 119, Tryd.f4.body.getD .skip, Tryd.f4.results.toList, an4⟩
theorem ok4 : FnOk Tryd.prog 4 fi4 := ⟨⟨Tryd.f4, Tryd.func4, by kernel_rfl, rfl, rfl, rfl⟩, by decide, by kernel_rfl⟩
noncomputable def lp4_0 : Code := subC [1, 1, 1, 0, 1, 0, 0] (Tryd.f4.body.getD .skip)   -- keep [0, 3, 4, 5]
noncomputable def lp4_1 : Code := subC [1, 1, 1, 1, 1, 1, 1, 1, 0, 1, 0, 0] (Tryd.f4.body.getD .skip)   -- keep [3, 4, 7, 9, 10]
noncomputable def lp4_2 : Code := subC [1, 1, 1, 1, 1, 1, 1, 1, 1, 1, 1, 0, 1, 0, 0] (Tryd.f4.body.getD .skip)   -- keep [3, 4, 9, 11, 12]

/-- A row of these, at whose end it may be appended; or none yet. -/
def LS (xs : List Int) (L : D) (τ : List Bool) : Prop := (xs = [] ∧ L = .nilsl) ∨ ∃ t, L = .vec 1 (xs.map (.int .i64)) (.own t) ∧ τ[t]? = some true

def stA4 (d L : D) (B : Hp) (τ : List Bool) (all : Int) (k : Nat) : St := ⟨[(0, d), (3, L), (4, .int .i64 all), (5, .int .i64 k)], [], τ, B⟩

set_option maxRecDepth 10000 in
theorem bodyA4_end (C : Callees) (sz : List Int) (p : Perm) (L : D) (B : Hp) (τ : List Bool) (all : Int) (k : Nat) (hk : sz.length ≤ k ∨ 300 ≤ k) :
    ∃ ρ, go T an4 C lp4_0 .top (stA4 (.vec 1 (sz.map (.int .u8)) p) L B τ all k) = some (.exit 0, ⟨ρ, [], τ, B⟩) ∧ get ρ 3 = L ∧ get ρ 4 = .int .i64 all := by
  simp only [stA4, lp4_0, subC, atC, Tryd.f4, an4, T3, T4, T5, T22, T25, T34, e_seq, e_region, e_block, e_cond, e_ret, e_skip, e_exit, e_plain, e_guard, e_nil, e_op, e_ifT, e_ifF, e_true, e_false, e_loop, e_l, e_top, e_seqN, e_seqE, e_seqR, e_blockN, e_blockR, e_blockE,
    e_finN, e_finX, e_finR, retV, resV, resL, outCL, outC, outL, outD, wantedV, opV, An.at_, prune, List.map_cons, List.map_nil, envOf, get, put, eval, ofV, nbeq, nble, binV, binV.aggV, unV, intV, eqOp, isConst, natV, optV, loadV, loadC, storeV, setC, St.at_, partV, indexAddrV, fieldAddrV, sliceV, sliceV.rowSl, sliceV.strSl, bounds, cutP,
    builtinV, lenV, maxL, maxV, appendV, St.elems, roomy, rowOf, rowS, isStr, esz, tdOf, convV, buildV, fillV, partsV, okParts, fillL, D.whole, D.demoteC, D.demote, demoteL, D.global, D.leaf, D.cells, TI.agg, TD.rowish, callOpV, CC, keepB, St.borrowL, St.borrow, D.isLsl, adoptR, adoptC, adoptCL, adoptL, adopt, upd,
    List.toArray, Array.toList, List.length_cons, List.length_nil, List.length_map, List.length_append, List.length_replicate, List.replicate_succ, List.replicate_zero, List.replicate_one, ← List.map_take, ← List.map_drop, List.drop_zero, Nat.zero_le, Nat.le_refl, Nat.sub_zero, List.getElem?_cons_succ, List.getElem?_cons_zero, List.getElem?_nil, List.any_cons, List.any_nil, List.all_cons, List.all_nil, List.append_nil, List.nil_append, List.cons_append, List.set_cons_zero, List.set_cons_succ,
    cond_true, cond_false, decide_true, decide_false, Bool.true_and, Bool.and_true, Bool.false_and, Bool.and_false, Bool.true_or, Bool.or_true, Bool.false_or, Bool.or_false, Bool.not_true, Bool.not_false, Bool.and_self, Bool.or_self, bT, bF, ieq, ine, decide_eq_true_eq, decide_not,
    Nat.reduceEqDiff, Nat.reduceAdd, Nat.reduceSub, Nat.reduceMul, Nat.reduceLeDiff, Nat.reduceLT, Nat.zero_add, Nat.add_zero, Option.getD_some, Option.getD_none, Option.isSome_some, Option.isSome_none, reduceIte, reduceCtorEq, and_self, and_true, true_and, not_true_eq_false, not_false_eq_true, false_imp_iff, forall_const, imp_self,
    Int.reduceNeg, Int.reduceLT, Int.reduceLE, Int.reduceAdd, Int.reduceSub, Int.reduceMul, Int.reduceToNat, Int.reduceEq, ne_eq, eq_self, beq_self_eq_true]
  repeat' ((first | rw [e_if] | rw [e_bool]); split <;> rename_i hc <;> (try simp only [bT, bF, Bool.not_eq_true', decide_eq_true_eq, decide_eq_false_iff_not, Bool.not_eq_true, Bool.not_eq_false, Decidable.not_not] at hc) <;> simp only [hc, T3, T4, T5, T22, T25, T34, e_seq, e_region, e_block, e_cond, e_ret, e_skip, e_exit, e_plain, e_guard, e_nil, e_op, e_ifT, e_ifF, e_true, e_false, e_loop, e_l, e_top, e_seqN, e_seqE, e_seqR, e_blockN, e_blockR, e_blockE,
    e_finN, e_finX, e_finR, retV, resV, resL, outCL, outC, outL, outD, wantedV, opV, An.at_, prune, List.map_cons, List.map_nil, envOf, get, put, eval, ofV, nbeq, nble, binV, binV.aggV, unV, intV, eqOp, isConst, natV, optV, loadV, loadC, storeV, setC, St.at_, partV, indexAddrV, fieldAddrV, sliceV, sliceV.rowSl, sliceV.strSl, bounds, cutP,
    builtinV, lenV, maxL, maxV, appendV, St.elems, roomy, rowOf, rowS, isStr, esz, tdOf, convV, buildV, fillV, partsV, okParts, fillL, D.whole, D.demoteC, D.demote, demoteL, D.global, D.leaf, D.cells, TI.agg, TD.rowish, callOpV, CC, keepB, St.borrowL, St.borrow, D.isLsl, adoptR, adoptC, adoptCL, adoptL, adopt, upd,
    List.toArray, Array.toList, List.length_cons, List.length_nil, List.length_map, List.length_append, List.length_replicate, List.replicate_succ, List.replicate_zero, List.replicate_one, ← List.map_take, ← List.map_drop, List.drop_zero, Nat.zero_le, Nat.le_refl, Nat.sub_zero, List.getElem?_cons_succ, List.getElem?_cons_zero, List.getElem?_nil, List.any_cons, List.any_nil, List.all_cons, List.all_nil, List.append_nil, List.nil_append, List.cons_append, List.set_cons_zero, List.set_cons_succ,
    cond_true, cond_false, decide_true, decide_false, Bool.true_and, Bool.and_true, Bool.false_and, Bool.and_false, Bool.true_or, Bool.or_true, Bool.false_or, Bool.or_false, Bool.not_true, Bool.not_false, Bool.and_self, Bool.or_self, bT, bF, ieq, ine, decide_eq_true_eq, decide_not,
    Nat.reduceEqDiff, Nat.reduceAdd, Nat.reduceSub, Nat.reduceMul, Nat.reduceLeDiff, Nat.reduceLT, Nat.zero_add, Nat.add_zero, Option.getD_some, Option.getD_none, Option.isSome_some, Option.isSome_none, reduceIte, reduceCtorEq, and_self, and_true, true_and, not_true_eq_false, not_false_eq_true, false_imp_iff, forall_const, imp_self,
    Int.reduceNeg, Int.reduceLT, Int.reduceLE, Int.reduceAdd, Int.reduceSub, Int.reduceMul, Int.reduceToNat, Int.reduceEq, ne_eq, eq_self, beq_self_eq_true])
  all_goals first | exact ⟨_, rfl, rfl, rfl⟩ | (exfalso; omega)

theorem modW (n : Int) (hn : 0 ≤ n ∧ n ≤ 255) : IntKind.i64.wrap (n.tmod 112) = n % 112 := by
  rw [Int.tmod_eq_emod_of_nonneg hn.1]
  exact wrapI (by omega) (by omega)

set_option maxRecDepth 10000 in
theorem bodyA4_bad (C : Callees) (sz : List Int) (p : Perm) (L : D) (B : Hp) (τ : List Bool) (all n : Int) (k : Nat) (hk : sz[k]? = some n) (hk3 : k < 300) (hn : 0 ≤ n ∧ n ≤ 255) (ha : 0 ≤ all ∧ all ≤ 700) (hb : 700 < all + (1 + n % 112)) :
    ∃ ρ, go T an4 C lp4_0 .top (stA4 (.vec 1 (sz.map (.int .u8)) p) L B τ all k) = some (.exit 0, ⟨ρ, [], τ, B⟩) ∧ get ρ 3 = L ∧ get ρ 4 = .int .i64 all := by
  have hlt : (k : Int) < sz.length := by have := (List.getElem?_eq_some_iff.1 hk).1; omega
  have h0 : (0 : Int) ≤ k := by omega
  have h3 : (k : Int) < 300 := by omega
  have h4 := modW n hn
  have h5 := wrapI (x := 1 + n % 112) (by omega) (by omega)
  have h6 := wrapI (x := all + (1 + n % 112)) (by omega) (by omega)
  have h7 : all + (1 + n % 112) > 700 := hb
  simp only [stA4, lp4_0, subC, atC, Tryd.f4, an4, hlt, h0, h3, h4, h5, h6, h7, List.getElem?_map, Int.toNat_natCast, hk, Option.map_some, T3, T4, T5, T22, T25, T34, e_seq, e_region, e_block, e_cond, e_ret, e_skip, e_exit, e_plain, e_guard, e_nil, e_op, e_ifT, e_ifF, e_true, e_false, e_loop, e_l, e_top, e_seqN, e_seqE, e_seqR, e_blockN, e_blockR, e_blockE,
    e_finN, e_finX, e_finR, retV, resV, resL, outCL, outC, outL, outD, wantedV, opV, An.at_, prune, List.map_cons, List.map_nil, envOf, get, put, eval, ofV, nbeq, nble, binV, binV.aggV, unV, intV, eqOp, isConst, natV, optV, loadV, loadC, storeV, setC, St.at_, partV, indexAddrV, fieldAddrV, sliceV, sliceV.rowSl, sliceV.strSl, bounds, cutP,
    builtinV, lenV, maxL, maxV, appendV, St.elems, roomy, rowOf, rowS, isStr, esz, tdOf, convV, buildV, fillV, partsV, okParts, fillL, D.whole, D.demoteC, D.demote, demoteL, D.global, D.leaf, D.cells, TI.agg, TD.rowish, callOpV, CC, keepB, St.borrowL, St.borrow, D.isLsl, adoptR, adoptC, adoptCL, adoptL, adopt, upd,
    List.toArray, Array.toList, List.length_cons, List.length_nil, List.length_map, List.length_append, List.length_replicate, List.replicate_succ, List.replicate_zero, List.replicate_one, ← List.map_take, ← List.map_drop, List.drop_zero, Nat.zero_le, Nat.le_refl, Nat.sub_zero, List.getElem?_cons_succ, List.getElem?_cons_zero, List.getElem?_nil, List.any_cons, List.any_nil, List.all_cons, List.all_nil, List.append_nil, List.nil_append, List.cons_append, List.set_cons_zero, List.set_cons_succ,
    cond_true, cond_false, decide_true, decide_false, Bool.true_and, Bool.and_true, Bool.false_and, Bool.and_false, Bool.true_or, Bool.or_true, Bool.false_or, Bool.or_false, Bool.not_true, Bool.not_false, Bool.and_self, Bool.or_self, bT, bF, ieq, ine, decide_eq_true_eq, decide_not,
    Nat.reduceEqDiff, Nat.reduceAdd, Nat.reduceSub, Nat.reduceMul, Nat.reduceLeDiff, Nat.reduceLT, Nat.zero_add, Nat.add_zero, Option.getD_some, Option.getD_none, Option.isSome_some, Option.isSome_none, reduceIte, reduceCtorEq, and_self, and_true, true_and, not_true_eq_false, not_false_eq_true, false_imp_iff, forall_const, imp_self,
    Int.reduceNeg, Int.reduceLT, Int.reduceLE, Int.reduceAdd, Int.reduceSub, Int.reduceMul, Int.reduceToNat, Int.reduceEq, ne_eq, eq_self, beq_self_eq_true]
  exact ⟨_, rfl, rfl, rfl⟩

set_option maxRecDepth 10000 in
theorem bodyA4_nil (C : Callees) (sz : List Int) (p : Perm) (B : Hp) (τ : List Bool) (all n : Int) (k : Nat) (hk : sz[k]? = some n) (hk3 : k < 300) (hn : 0 ≤ n ∧ n ≤ 255) (ha : 0 ≤ all ∧ all ≤ 700) (hb : ¬ 700 < all + (1 + n % 112)) :
    ∃ ρ, go T an4 C lp4_0 .top (stA4 (.vec 1 (sz.map (.int .u8)) p) .nilsl B τ all k) = some (.norm, ⟨ρ, [], τ ++ [true], B⟩) ∧
      an4.at_ (some 4) ⟨ρ, [], τ ++ [true], B⟩ = stA4 (.vec 1 (sz.map (.int .u8)) p) (.vec 1 [.int .i64 (1 + n % 112)] (.own τ.length)) B (τ ++ [true]) (all + (1 + n % 112)) (k + 1) := by
  have hlt : (k : Int) < sz.length := by have := (List.getElem?_eq_some_iff.1 hk).1; omega
  have h0 : (0 : Int) ≤ k := by omega
  have h3 : (k : Int) < 300 := by omega
  have h4 := modW n hn
  have h5 := wrapI (x := 1 + n % 112) (by omega) (by omega)
  have h6 := wrapI (x := all + (1 + n % 112)) (by omega) (by omega)
  have h7 : ¬ all + (1 + n % 112) > 700 := hb
  have h8 := wrapI (x := (k : Int) + 1) (by omega) (by omega)
  simp only [stA4, lp4_0, subC, atC, Tryd.f4, an4, hlt, h0, h3, h4, h5, h6, h7, h8, List.getElem?_map, Int.toNat_natCast, hk, Option.map_some, T3, T4, T5, T22, T25, T34, e_seq, e_region, e_block, e_cond, e_ret, e_skip, e_exit, e_plain, e_guard, e_nil, e_op, e_ifT, e_ifF, e_true, e_false, e_loop, e_l, e_top, e_seqN, e_seqE, e_seqR, e_blockN, e_blockR, e_blockE,
    e_finN, e_finX, e_finR, retV, resV, resL, outCL, outC, outL, outD, wantedV, opV, An.at_, prune, List.map_cons, List.map_nil, envOf, get, put, eval, ofV, nbeq, nble, binV, binV.aggV, unV, intV, eqOp, isConst, natV, optV, loadV, loadC, storeV, setC, St.at_, partV, indexAddrV, fieldAddrV, sliceV, sliceV.rowSl, sliceV.strSl, bounds, cutP,
    builtinV, lenV, maxL, maxV, appendV, St.elems, roomy, rowOf, rowS, isStr, esz, tdOf, convV, buildV, fillV, partsV, okParts, fillL, D.whole, D.demoteC, D.demote, demoteL, D.global, D.leaf, D.cells, TI.agg, TD.rowish, callOpV, CC, keepB, St.borrowL, St.borrow, D.isLsl, adoptR, adoptC, adoptCL, adoptL, adopt, upd,
    List.toArray, Array.toList, List.length_cons, List.length_nil, List.length_map, List.length_append, List.length_replicate, List.replicate_succ, List.replicate_zero, List.replicate_one, ← List.map_take, ← List.map_drop, List.drop_zero, Nat.zero_le, Nat.le_refl, Nat.sub_zero, List.getElem?_cons_succ, List.getElem?_cons_zero, List.getElem?_nil, List.any_cons, List.any_nil, List.all_cons, List.all_nil, List.append_nil, List.nil_append, List.cons_append, List.set_cons_zero, List.set_cons_succ,
    cond_true, cond_false, decide_true, decide_false, Bool.true_and, Bool.and_true, Bool.false_and, Bool.and_false, Bool.true_or, Bool.or_true, Bool.false_or, Bool.or_false, Bool.not_true, Bool.not_false, Bool.and_self, Bool.or_self, bT, bF, ieq, ine, decide_eq_true_eq, decide_not,
    Nat.reduceEqDiff, Nat.reduceAdd, Nat.reduceSub, Nat.reduceMul, Nat.reduceLeDiff, Nat.reduceLT, Nat.zero_add, Nat.add_zero, Option.getD_some, Option.getD_none, Option.isSome_some, Option.isSome_none, reduceIte, reduceCtorEq, and_self, and_true, true_and, not_true_eq_false, not_false_eq_true, false_imp_iff, forall_const, imp_self,
    Int.reduceNeg, Int.reduceLT, Int.reduceLE, Int.reduceAdd, Int.reduceSub, Int.reduceMul, Int.reduceToNat, Int.reduceEq, ne_eq, eq_self, beq_self_eq_true]
  exact ⟨_, rfl, rfl⟩

set_option maxRecDepth 10000 in
theorem bodyA4_own (C : Callees) (sz xs : List Int) (p : Perm) (B : Hp) (τ : List Bool) (all n : Int) (k t : Nat) (hk : sz[k]? = some n) (hk3 : k < 300) (hn : 0 ≤ n ∧ n ≤ 255) (ha : 0 ≤ all ∧ all ≤ 700) (hb : ¬ 700 < all + (1 + n % 112)) (ht : τ[t]? = some true) (hx : xs.length ≤ 300) :
    ∃ ρ, go T an4 C lp4_0 .top (stA4 (.vec 1 (sz.map (.int .u8)) p) (.vec 1 (xs.map (.int .i64)) (.own t)) B τ all k) = some (.norm, ⟨ρ, [], τ.set t false ++ [true], B⟩) ∧
      an4.at_ (some 4) ⟨ρ, [], τ.set t false ++ [true], B⟩ = stA4 (.vec 1 (sz.map (.int .u8)) p) (.vec 1 (xs.map (.int .i64) ++ [.int .i64 (1 + n % 112)]) (.own τ.length)) B (τ.set t false ++ [true]) (all + (1 + n % 112)) (k + 1) := by
  have hlt : (k : Int) < sz.length := by have := (List.getElem?_eq_some_iff.1 hk).1; omega
  have h0 : (0 : Int) ≤ k := by omega
  have h3 : (k : Int) < 300 := by omega
  have h4 := modW n hn
  have h5 := wrapI (x := 1 + n % 112) (by omega) (by omega)
  have h6 := wrapI (x := all + (1 + n % 112)) (by omega) (by omega)
  have h7 : ¬ all + (1 + n % 112) > 700 := hb
  have h8 := wrapI (x := (k : Int) + 1) (by omega) (by omega)
  have h9 : (xs.length + 1) * 8 ≤ 140737488355328 := by omega
  simp only [stA4, lp4_0, subC, atC, Tryd.f4, an4, hlt, h0, h3, h4, h5, h6, h7, h8, h9, ht, List.getElem?_map, Int.toNat_natCast, hk, Option.map_some, T3, T4, T5, T22, T25, T34, e_seq, e_region, e_block, e_cond, e_ret, e_skip, e_exit, e_plain, e_guard, e_nil, e_op, e_ifT, e_ifF, e_true, e_false, e_loop, e_l, e_top, e_seqN, e_seqE, e_seqR, e_blockN, e_blockR, e_blockE,
    e_finN, e_finX, e_finR, retV, resV, resL, outCL, outC, outL, outD, wantedV, opV, An.at_, prune, List.map_cons, List.map_nil, envOf, get, put, eval, ofV, nbeq, nble, binV, binV.aggV, unV, intV, eqOp, isConst, natV, optV, loadV, loadC, storeV, setC, St.at_, partV, indexAddrV, fieldAddrV, sliceV, sliceV.rowSl, sliceV.strSl, bounds, cutP,
    builtinV, lenV, maxL, maxV, appendV, St.elems, roomy, rowOf, rowS, isStr, esz, tdOf, convV, buildV, fillV, partsV, okParts, fillL, D.whole, D.demoteC, D.demote, demoteL, D.global, D.leaf, D.cells, TI.agg, TD.rowish, callOpV, CC, keepB, St.borrowL, St.borrow, D.isLsl, adoptR, adoptC, adoptCL, adoptL, adopt, upd,
    List.toArray, Array.toList, List.length_cons, List.length_nil, List.length_map, List.length_append, List.length_replicate, List.replicate_succ, List.replicate_zero, List.replicate_one, ← List.map_take, ← List.map_drop, List.drop_zero, Nat.zero_le, Nat.le_refl, Nat.sub_zero, List.getElem?_cons_succ, List.getElem?_cons_zero, List.getElem?_nil, List.any_cons, List.any_nil, List.all_cons, List.all_nil, List.append_nil, List.nil_append, List.cons_append, List.set_cons_zero, List.set_cons_succ,
    cond_true, cond_false, decide_true, decide_false, Bool.true_and, Bool.and_true, Bool.false_and, Bool.and_false, Bool.true_or, Bool.or_true, Bool.false_or, Bool.or_false, Bool.not_true, Bool.not_false, Bool.and_self, Bool.or_self, bT, bF, ieq, ine, decide_eq_true_eq, decide_not,
    Nat.reduceEqDiff, Nat.reduceAdd, Nat.reduceSub, Nat.reduceMul, Nat.reduceLeDiff, Nat.reduceLT, Nat.zero_add, Nat.add_zero, Option.getD_some, Option.getD_none, Option.isSome_some, Option.isSome_none, reduceIte, reduceCtorEq, and_self, and_true, true_and, not_true_eq_false, not_false_eq_true, false_imp_iff, forall_const, imp_self,
    Int.reduceNeg, Int.reduceLT, Int.reduceLE, Int.reduceAdd, Int.reduceSub, Int.reduceMul, Int.reduceToNat, Int.reduceEq, ne_eq, eq_self, beq_self_eq_true]
  exact ⟨_, rfl, rfl⟩

/-- What the first loop makes. -/
structure Made (xs : List Int) : Prop where
  each : ∀ n, n ∈ xs → 1 ≤ n ∧ n ≤ 112
  sum : 0 ≤ xs.sum ∧ xs.sum ≤ 700
  len : xs.length ≤ 300

theorem loopA4 (C : Callees) (sz : List Int) (hsz : ∀ n, n ∈ sz → 0 ≤ n ∧ n ≤ 255) (p : Perm) (B : Hp) : ∀ (m k : Nat) (xs : List Int) (L : D) (τ : List Bool) (st : St), 300 - k = m → k ≤ 300 → LS xs L τ → Made xs → xs.length ≤ k →
    an4.at_ (some 4) st = stA4 (.vec 1 (sz.map (.int .u8)) p) L B τ xs.sum k →
    ∃ x st', loopC T an4 C lp4_0 st = some (x, st') ∧ ∃ ρ τ' ys L', st' = ⟨ρ, [], τ', B⟩ ∧ x = .exit 0 ∧ LS ys L' τ' ∧ Made ys ∧ get ρ 3 = L' ∧ get ρ 4 = .int .i64 ys.sum := by
  intro m
  induction m with
  | zero =>
    intro k xs L τ st hm hk hL hM hx hst
    obtain ⟨ρ, h, hg1, hg2⟩ := bodyA4_end C sz p L B τ xs.sum k (.inr (by omega))
    exact ⟨_, _, loopC_done (by rw [show firstOf lp4_0 = some 4 from rfl, hst]; exact h) (by simp), ρ, τ, xs, L, rfl, rfl, hL, hM, hg1, hg2⟩
  | succ m ih =>
    intro k xs L τ st hm hk hL hM hx hst
    by_cases hlt : sz.length ≤ k
    · obtain ⟨ρ, h, hg1, hg2⟩ := bodyA4_end C sz p L B τ xs.sum k (.inl hlt)
      exact ⟨_, _, loopC_done (by rw [show firstOf lp4_0 = some 4 from rfl, hst]; exact h) (by simp), ρ, τ, xs, L, rfl, rfl, hL, hM, hg1, hg2⟩
    · have hkn := List.getElem?_eq_getElem (l := sz) (i := k) (by omega)
      generalize hn : sz[k] = n at hkn
      have hn2 := hsz n (List.mem_of_getElem? hkn)
      have hs := hM.sum
      by_cases hb : 700 < xs.sum + (1 + n % 112)
      · obtain ⟨ρ, h, hg1, hg2⟩ := bodyA4_bad C sz p L B τ xs.sum n k hkn (by omega) hn2 hs hb
        exact ⟨_, _, loopC_done (by rw [show firstOf lp4_0 = some 4 from rfl, hst]; exact h) (by simp), ρ, τ, xs, L, rfl, rfl, hL, hM, hg1, hg2⟩
      · have hM' : Made (xs ++ [1 + n % 112]) := by
          refine ⟨fun q hq => ?_, by simp only [List.sum_append, List.sum_cons, List.sum_nil]; omega, by simp only [List.length_append, List.length_cons, List.length_nil]; omega⟩
          rcases List.mem_append.1 hq with hq | hq
          · exact hM.each q hq
          · simp at hq; omega
        rcases hL with ⟨rfl, rfl⟩ | ⟨t, rfl, ht⟩
        · obtain ⟨ρ, h, hg⟩ := bodyA4_nil C sz p B τ ([] : List Int).sum n k hkn (by omega) hn2 hs hb
          obtain ⟨x, st', h4, h5⟩ := ih (k + 1) [1 + n % 112] (.vec 1 [.int .i64 (1 + n % 112)] (.own τ.length)) (τ ++ [true]) ⟨ρ, [], τ ++ [true], B⟩ (by omega) (by omega) (.inr ⟨τ.length, rfl, by simp⟩) hM' (by simp) (by rw [hg]; simp)
          exact ⟨x, st', loopC_next (by rw [show firstOf lp4_0 = some 4 from rfl, hst]; exact h) h4, h5⟩
        · obtain ⟨ρ, h, hg⟩ := bodyA4_own C sz xs p B τ xs.sum n k t hkn (by omega) hn2 hs hb ht hM.len
          obtain ⟨x, st', h4, h5⟩ := ih (k + 1) (xs ++ [1 + n % 112]) (.vec 1 (xs.map (.int .i64) ++ [.int .i64 (1 + n % 112)]) (.own τ.length)) (τ.set t false ++ [true]) ⟨ρ, [], τ.set t false ++ [true], B⟩ (by omega) (by omega) (.inr ⟨τ.length, by simp, by simp⟩) hM' (by simp; omega) (by rw [hg]; simp)
          exact ⟨x, st', loopC_next (by rw [show firstOf lp4_0 = some 4 from rfl, hst]; exact h) h4, h5⟩

/-! ### The sum of the first node -/
def stB4 (xs : List Int) (t : Nat) (B : Hp) (τ : List Bool) (all at_ a : Int) (k : Nat) : St := ⟨[(3, .vec 1 (xs.map (.int .i64)) (.own t)), (4, .int .i64 all), (7, .int .i64 at_), (9, .int .i64 a), (10, .int .i64 k)], [], τ, B⟩

set_option maxRecDepth 10000 in
theorem bodyB4_end (C : Callees) (xs : List Int) (t : Nat) (B : Hp) (τ : List Bool) (all a : Int) (k : Nat) :
    ∃ ρ, go T an4 C lp4_1 .top (stB4 xs t B τ all k a k) = some (.exit 2, ⟨ρ, [], τ, B⟩) ∧ get ρ 3 = .vec 1 (xs.map (.int .i64)) (.own t) ∧ get ρ 4 = .int .i64 all ∧ get ρ 9 = .int .i64 a := by
  simp only [stB4, lp4_1, subC, atC, Tryd.f4, an4, Int.lt_irrefl, T3, T4, T5, T22, T25, T34, e_seq, e_region, e_block, e_cond, e_ret, e_skip, e_exit, e_plain, e_guard, e_nil, e_op, e_ifT, e_ifF, e_true, e_false, e_loop, e_l, e_top, e_seqN, e_seqE, e_seqR, e_blockN, e_blockR, e_blockE,
    e_finN, e_finX, e_finR, retV, resV, resL, outCL, outC, outL, outD, wantedV, opV, An.at_, prune, List.map_cons, List.map_nil, envOf, get, put, eval, ofV, nbeq, nble, binV, binV.aggV, unV, intV, eqOp, isConst, natV, optV, loadV, loadC, storeV, setC, St.at_, partV, indexAddrV, fieldAddrV, sliceV, sliceV.rowSl, sliceV.strSl, bounds, cutP,
    builtinV, lenV, maxL, maxV, appendV, St.elems, roomy, rowOf, rowS, isStr, esz, tdOf, convV, buildV, fillV, partsV, okParts, fillL, D.whole, D.demoteC, D.demote, demoteL, D.global, D.leaf, D.cells, TI.agg, TD.rowish, callOpV, CC, keepB, St.borrowL, St.borrow, D.isLsl, adoptR, adoptC, adoptCL, adoptL, adopt, upd,
    List.toArray, Array.toList, List.length_cons, List.length_nil, List.length_map, List.length_append, List.length_replicate, List.replicate_succ, List.replicate_zero, List.replicate_one, ← List.map_take, ← List.map_drop, List.drop_zero, Nat.zero_le, Nat.le_refl, Nat.sub_zero, List.getElem?_cons_succ, List.getElem?_cons_zero, List.getElem?_nil, List.any_cons, List.any_nil, List.all_cons, List.all_nil, List.append_nil, List.nil_append, List.cons_append, List.set_cons_zero, List.set_cons_succ,
    cond_true, cond_false, decide_true, decide_false, Bool.true_and, Bool.and_true, Bool.false_and, Bool.and_false, Bool.true_or, Bool.or_true, Bool.false_or, Bool.or_false, Bool.not_true, Bool.not_false, Bool.and_self, Bool.or_self, bT, bF, ieq, ine, decide_eq_true_eq, decide_not,
    Nat.reduceEqDiff, Nat.reduceAdd, Nat.reduceSub, Nat.reduceMul, Nat.reduceLeDiff, Nat.reduceLT, Nat.zero_add, Nat.add_zero, Option.getD_some, Option.getD_none, Option.isSome_some, Option.isSome_none, reduceIte, reduceCtorEq, and_self, and_true, true_and, not_true_eq_false, not_false_eq_true, false_imp_iff, forall_const, imp_self,
    Int.reduceNeg, Int.reduceLT, Int.reduceLE, Int.reduceAdd, Int.reduceSub, Int.reduceMul, Int.reduceToNat, Int.reduceEq, ne_eq, eq_self, beq_self_eq_true]
  exact ⟨_, rfl, rfl, rfl, rfl⟩

set_option maxRecDepth 10000 in
theorem bodyB4_ok (C : Callees) (xs : List Int) (t : Nat) (B : Hp) (τ : List Bool) (all a n : Int) (at_ k : Nat) (hk : xs[k]? = some n) (hka : k < at_) (h300 : xs.length ≤ 300) (ha : 0 ≤ a + n ∧ a + n ≤ 700) :
    ∃ ρ, go T an4 C lp4_1 .top (stB4 xs t B τ all at_ a k) = some (.norm, ⟨ρ, [], τ, B⟩) ∧ an4.at_ (some 16) ⟨ρ, [], τ, B⟩ = stB4 xs t B τ all at_ (a + n) (k + 1) := by
  have hlt : (k : Int) < at_ := by omega
  have hlen := (List.getElem?_eq_some_iff.1 hk).1
  have h0 : (0 : Int) ≤ k := by omega
  have h6 := wrapI (x := a + n) (by omega) (by omega)
  have h8 := wrapI (x := (k : Int) + 1) (by omega) (by omega)
  simp only [stB4, lp4_1, subC, atC, Tryd.f4, an4, hlt, h0, h6, h8, List.getElem?_map, Int.toNat_natCast, hk, Option.map_some, T3, T4, T5, T22, T25, T34, e_seq, e_region, e_block, e_cond, e_ret, e_skip, e_exit, e_plain, e_guard, e_nil, e_op, e_ifT, e_ifF, e_true, e_false, e_loop, e_l, e_top, e_seqN, e_seqE, e_seqR, e_blockN, e_blockR, e_blockE,
    e_finN, e_finX, e_finR, retV, resV, resL, outCL, outC, outL, outD, wantedV, opV, An.at_, prune, List.map_cons, List.map_nil, envOf, get, put, eval, ofV, nbeq, nble, binV, binV.aggV, unV, intV, eqOp, isConst, natV, optV, loadV, loadC, storeV, setC, St.at_, partV, indexAddrV, fieldAddrV, sliceV, sliceV.rowSl, sliceV.strSl, bounds, cutP,
    builtinV, lenV, maxL, maxV, appendV, St.elems, roomy, rowOf, rowS, isStr, esz, tdOf, convV, buildV, fillV, partsV, okParts, fillL, D.whole, D.demoteC, D.demote, demoteL, D.global, D.leaf, D.cells, TI.agg, TD.rowish, callOpV, CC, keepB, St.borrowL, St.borrow, D.isLsl, adoptR, adoptC, adoptCL, adoptL, adopt, upd,
    List.toArray, Array.toList, List.length_cons, List.length_nil, List.length_map, List.length_append, List.length_replicate, List.replicate_succ, List.replicate_zero, List.replicate_one, ← List.map_take, ← List.map_drop, List.drop_zero, Nat.zero_le, Nat.le_refl, Nat.sub_zero, List.getElem?_cons_succ, List.getElem?_cons_zero, List.getElem?_nil, List.any_cons, List.any_nil, List.all_cons, List.all_nil, List.append_nil, List.nil_append, List.cons_append, List.set_cons_zero, List.set_cons_succ,
    cond_true, cond_false, decide_true, decide_false, Bool.true_and, Bool.and_true, Bool.false_and, Bool.and_false, Bool.true_or, Bool.or_true, Bool.false_or, Bool.or_false, Bool.not_true, Bool.not_false, Bool.and_self, Bool.or_self, bT, bF, ieq, ine, decide_eq_true_eq, decide_not,
    Nat.reduceEqDiff, Nat.reduceAdd, Nat.reduceSub, Nat.reduceMul, Nat.reduceLeDiff, Nat.reduceLT, Nat.zero_add, Nat.add_zero, Option.getD_some, Option.getD_none, Option.isSome_some, Option.isSome_none, reduceIte, reduceCtorEq, and_self, and_true, true_and, not_true_eq_false, not_false_eq_true, false_imp_iff, forall_const, imp_self,
    Int.reduceNeg, Int.reduceLT, Int.reduceLE, Int.reduceAdd, Int.reduceSub, Int.reduceMul, Int.reduceToNat, Int.reduceEq, ne_eq, eq_self, beq_self_eq_true]
  exact ⟨_, rfl, rfl⟩

theorem take_next {xs : List Int} {k : Nat} {n : Int} (hk : xs[k]? = some n) : (xs.take (k + 1)).sum = (xs.take k).sum + n := by
  rw [List.take_add_one, List.sum_append, hk]; simp

theorem made_take {xs : List Int} (hM : Made xs) (k : Nat) : 0 ≤ (xs.take k).sum ∧ (xs.take k).sum ≤ xs.sum := by
  have h1 := sum_split xs k
  have h2 : ∀ (l : List Int), (∀ n, n ∈ l → 1 ≤ n ∧ n ≤ 112) → 0 ≤ l.sum := by
    intro l
    induction l with
    | nil => intro _; simp
    | cons a l ih =>
      intro h
      have := h a (by simp)
      have := ih (fun n hn => h n (by simp [hn]))
      simp only [List.sum_cons]; omega
  have h3 := h2 (xs.take k) (fun n hn => hM.each n (List.mem_of_mem_take hn))
  have h4 := h2 (xs.drop k) (fun n hn => hM.each n (List.mem_of_mem_drop hn))
  omega

theorem loopB4 (C : Callees) (xs : List Int) (hM : Made xs) (t : Nat) (B : Hp) (τ : List Bool) (all : Int) (at_ : Nat) (hat : at_ ≤ xs.length) : ∀ (m k : Nat) (st : St), at_ - k = m → k ≤ at_ →
    an4.at_ (some 16) st = stB4 xs t B τ all at_ (xs.take k).sum k →
    ∃ x st', loopC T an4 C lp4_1 st = some (x, st') ∧ ∃ ρ, st' = ⟨ρ, [], τ, B⟩ ∧ x = .exit 2 ∧ get ρ 3 = .vec 1 (xs.map (.int .i64)) (.own t) ∧ get ρ 4 = .int .i64 all ∧ get ρ 9 = .int .i64 (xs.take at_).sum := by
  intro m
  induction m with
  | zero =>
    intro k st hm hk hst
    obtain rfl : k = at_ := by omega
    obtain ⟨ρ, h, hg1, hg2, hg3⟩ := bodyB4_end C xs t B τ all (xs.take k).sum k
    exact ⟨_, _, loopC_done (by rw [show firstOf lp4_1 = some 16 from rfl, hst]; exact h) (by simp), ρ, rfl, rfl, hg1, hg2, hg3⟩
  | succ m ih =>
    intro k st hm hk hst
    have hkn := List.getElem?_eq_getElem (l := xs) (i := k) (by omega)
    generalize xs[k] = n at hkn
    have hn := take_next hkn
    have hs := made_take hM (k + 1)
    have hs2 := hM.sum
    obtain ⟨ρ, h, hg⟩ := bodyB4_ok C xs t B τ all (xs.take k).sum n at_ k hkn (by omega) hM.len (by omega)
    obtain ⟨x, st', h4, h5⟩ := ih (k + 1) ⟨ρ, [], τ, B⟩ (by omega) (by omega) (by rw [hg, hn])
    exact ⟨x, st', loopC_next (by rw [show firstOf lp4_1 = some 16 from rfl, hst]; exact h) h4, h5⟩

/-! ### No other place is better -/
def stC4 (xs : List Int) (t : Nat) (B : Hp) (τ : List Bool) (all a b : Int) (k : Nat) : St := ⟨[(3, .vec 1 (xs.map (.int .i64)) (.own t)), (4, .int .i64 all), (9, .int .i64 a), (11, .int .i64 b), (12, .int .i64 k)], [], τ, B⟩

set_option maxRecDepth 10000 in
theorem bodyC4_end (C : Callees) (xs : List Int) (t : Nat) (B : Hp) (τ : List Bool) (all a b : Int) (k : Nat) (hk : xs.length ≤ k + 1) (hk2 : k ≤ 300) :
    ∃ ρ, go T an4 C lp4_2 .top (stC4 xs t B τ all a b k) = some (.exit 4, ⟨ρ, [], τ, B⟩) := by
  have h8 := wrapI (x := (k : Int) + 1) (by omega) (by omega)
  have hlt : ¬ (k : Int) + 1 < xs.length := by omega
  simp only [stC4, lp4_2, subC, atC, Tryd.f4, an4, h8, hlt, T3, T4, T5, T22, T25, T34, e_seq, e_region, e_block, e_cond, e_ret, e_skip, e_exit, e_plain, e_guard, e_nil, e_op, e_ifT, e_ifF, e_true, e_false, e_loop, e_l, e_top, e_seqN, e_seqE, e_seqR, e_blockN, e_blockR, e_blockE,
    e_finN, e_finX, e_finR, retV, resV, resL, outCL, outC, outL, outD, wantedV, opV, An.at_, prune, List.map_cons, List.map_nil, envOf, get, put, eval, ofV, nbeq, nble, binV, binV.aggV, unV, intV, eqOp, isConst, natV, optV, loadV, loadC, storeV, setC, St.at_, partV, indexAddrV, fieldAddrV, sliceV, sliceV.rowSl, sliceV.strSl, bounds, cutP,
    builtinV, lenV, maxL, maxV, appendV, St.elems, roomy, rowOf, rowS, isStr, esz, tdOf, convV, buildV, fillV, partsV, okParts, fillL, D.whole, D.demoteC, D.demote, demoteL, D.global, D.leaf, D.cells, TI.agg, TD.rowish, callOpV, CC, keepB, St.borrowL, St.borrow, D.isLsl, adoptR, adoptC, adoptCL, adoptL, adopt, upd,
    List.toArray, Array.toList, List.length_cons, List.length_nil, List.length_map, List.length_append, List.length_replicate, List.replicate_succ, List.replicate_zero, List.replicate_one, ← List.map_take, ← List.map_drop, List.drop_zero, Nat.zero_le, Nat.le_refl, Nat.sub_zero, List.getElem?_cons_succ, List.getElem?_cons_zero, List.getElem?_nil, List.any_cons, List.any_nil, List.all_cons, List.all_nil, List.append_nil, List.nil_append, List.cons_append, List.set_cons_zero, List.set_cons_succ,
    cond_true, cond_false, decide_true, decide_false, Bool.true_and, Bool.and_true, Bool.false_and, Bool.and_false, Bool.true_or, Bool.or_true, Bool.false_or, Bool.or_false, Bool.not_true, Bool.not_false, Bool.and_self, Bool.or_self, bT, bF, ieq, ine, decide_eq_true_eq, decide_not,
    Nat.reduceEqDiff, Nat.reduceAdd, Nat.reduceSub, Nat.reduceMul, Nat.reduceLeDiff, Nat.reduceLT, Nat.zero_add, Nat.add_zero, Option.getD_some, Option.getD_none, Option.isSome_some, Option.isSome_none, reduceIte, reduceCtorEq, and_self, and_true, true_and, not_true_eq_false, not_false_eq_true, false_imp_iff, forall_const, imp_self,
    Int.reduceNeg, Int.reduceLT, Int.reduceLE, Int.reduceAdd, Int.reduceSub, Int.reduceMul, Int.reduceToNat, Int.reduceEq, ne_eq, eq_self, beq_self_eq_true]
  exact ⟨_, rfl⟩

set_option maxRecDepth 10000 in
theorem bodyC4_ok (C : Callees) (xs : List Int) (t : Nat) (B : Hp) (τ : List Bool) (all a b n : Int) (k : Nat) (hk : xs[k]? = some n) (hk1 : k + 1 < xs.length) (h300 : xs.length ≤ 300) (hb : 0 ≤ b + n ∧ b + n ≤ all) (ha : 0 ≤ a ∧ a ≤ all) (hall : all ≤ 700) (hmax : max a (all - a) ≤ max (b + n) (all - (b + n))) :
    ∃ ρ, go T an4 C lp4_2 .top (stC4 xs t B τ all a b k) = some (.norm, ⟨ρ, [], τ, B⟩) ∧ an4.at_ (some 23) ⟨ρ, [], τ, B⟩ = stC4 xs t B τ all a (b + n) (k + 1) := by
  have hlt : (k : Int) + 1 < xs.length := by omega
  have hlen := (List.getElem?_eq_some_iff.1 hk).1
  have h0 : (0 : Int) ≤ k := by omega
  have h6 := wrapI (x := b + n) (by omega) (by omega)
  have h7 := wrapI (x := all - (b + n)) (by omega) (by omega)
  have h9 := wrapI (x := all - a) (by omega) (by omega)
  have h8 := wrapI (x := (k : Int) + 1) (by omega) (by omega)
  have h10 : ¬ ((if all - (b + n) > b + n then all - (b + n) else b + n) < if all - a > a then all - a else a) := by
    split <;> split <;> omega
  simp only [stC4, lp4_2, subC, atC, Tryd.f4, an4, hlt, h0, h6, h7, h8, h9, h10, List.getElem?_map, Int.toNat_natCast, hk, Option.map_some, T3, T4, T5, T22, T25, T34, e_seq, e_region, e_block, e_cond, e_ret, e_skip, e_exit, e_plain, e_guard, e_nil, e_op, e_ifT, e_ifF, e_true, e_false, e_loop, e_l, e_top, e_seqN, e_seqE, e_seqR, e_blockN, e_blockR, e_blockE,
    e_finN, e_finX, e_finR, retV, resV, resL, outCL, outC, outL, outD, wantedV, opV, An.at_, prune, List.map_cons, List.map_nil, envOf, get, put, eval, ofV, nbeq, nble, binV, binV.aggV, unV, intV, eqOp, isConst, natV, optV, loadV, loadC, storeV, setC, St.at_, partV, indexAddrV, fieldAddrV, sliceV, sliceV.rowSl, sliceV.strSl, bounds, cutP,
    builtinV, lenV, maxL, maxV, appendV, St.elems, roomy, rowOf, rowS, isStr, esz, tdOf, convV, buildV, fillV, partsV, okParts, fillL, D.whole, D.demoteC, D.demote, demoteL, D.global, D.leaf, D.cells, TI.agg, TD.rowish, callOpV, CC, keepB, St.borrowL, St.borrow, D.isLsl, adoptR, adoptC, adoptCL, adoptL, adopt, upd,
    List.toArray, Array.toList, List.length_cons, List.length_nil, List.length_map, List.length_append, List.length_replicate, List.replicate_succ, List.replicate_zero, List.replicate_one, ← List.map_take, ← List.map_drop, List.drop_zero, Nat.zero_le, Nat.le_refl, Nat.sub_zero, List.getElem?_cons_succ, List.getElem?_cons_zero, List.getElem?_nil, List.any_cons, List.any_nil, List.all_cons, List.all_nil, List.append_nil, List.nil_append, List.cons_append, List.set_cons_zero, List.set_cons_succ,
    cond_true, cond_false, decide_true, decide_false, Bool.true_and, Bool.and_true, Bool.false_and, Bool.and_false, Bool.true_or, Bool.or_true, Bool.false_or, Bool.or_false, Bool.not_true, Bool.not_false, Bool.and_self, Bool.or_self, bT, bF, ieq, ine, decide_eq_true_eq, decide_not,
    Nat.reduceEqDiff, Nat.reduceAdd, Nat.reduceSub, Nat.reduceMul, Nat.reduceLeDiff, Nat.reduceLT, Nat.zero_add, Nat.add_zero, Option.getD_some, Option.getD_none, Option.isSome_some, Option.isSome_none, reduceIte, reduceCtorEq, and_self, and_true, true_and, not_true_eq_false, not_false_eq_true, false_imp_iff, forall_const, imp_self,
    Int.reduceNeg, Int.reduceLT, Int.reduceLE, Int.reduceAdd, Int.reduceSub, Int.reduceMul, Int.reduceToNat, Int.reduceEq, ne_eq, eq_self, beq_self_eq_true]
  exact ⟨_, rfl, rfl⟩

theorem loopC4 (C : Callees) (xs : List Int) (hM : Made xs) (t : Nat) (B : Hp) (τ : List Bool) (at_ : Nat) (hbest : ∀ k, 1 ≤ k → k < xs.length → max (xs.take at_).sum (xs.sum - (xs.take at_).sum) ≤ max (xs.take k).sum (xs.sum - (xs.take k).sum)) : ∀ (m k : Nat) (st : St), xs.length - k = m →
    an4.at_ (some 23) st = stC4 xs t B τ xs.sum (xs.take at_).sum (xs.take k).sum k → k ≤ 300 →
    ∃ x st', loopC T an4 C lp4_2 st = some (x, st') ∧ ∃ ρ, st' = ⟨ρ, [], τ, B⟩ ∧ x = .exit 4 := by
  intro m
  induction m with
  | zero =>
    intro k st hm hst hk
    obtain ⟨ρ, h⟩ := bodyC4_end C xs t B τ xs.sum (xs.take at_).sum (xs.take k).sum k (by omega) hk
    exact ⟨_, _, loopC_done (by rw [show firstOf lp4_2 = some 23 from rfl, hst]; exact h) (by simp), ρ, rfl, rfl⟩
  | succ m ih =>
    intro k st hm hst hk
    by_cases hlt : xs.length ≤ k + 1
    · obtain ⟨ρ, h⟩ := bodyC4_end C xs t B τ xs.sum (xs.take at_).sum (xs.take k).sum k hlt hk
      exact ⟨_, _, loopC_done (by rw [show firstOf lp4_2 = some 23 from rfl, hst]; exact h) (by simp), ρ, rfl, rfl⟩
    · have hkn := List.getElem?_eq_getElem (l := xs) (i := k) (by omega)
      generalize xs[k] = n at hkn
      have hn := take_next hkn
      have hs := made_take hM (k + 1)
      have ha := made_take hM at_
      have hs2 := hM.sum
      have hl := hM.len
      have hb := hbest (k + 1) (by omega) (by omega)
      obtain ⟨ρ, h, hg⟩ := bodyC4_ok C xs t B τ xs.sum (xs.take at_).sum (xs.take k).sum n k hkn (by omega) hM.len (by omega) ha (by omega) (by rw [← hn]; exact hb)
      obtain ⟨x, st', h4, h5⟩ := ih (k + 1) ⟨ρ, [], τ, B⟩ (by omega) (by rw [hg, hn]) (by omega)
      exact ⟨x, st', loopC_next (by rw [show firstOf lp4_2 = some 23 from rfl, hst]; exact h) h4, h5⟩

/-! ### The plain law -/
theorem refAt_best (bes : Int) (l : List Int) : ∀ (m k : Nat) (at_ : Nat), 1 ≤ at_ → at_ < k → k + m ≤ l.length → (∀ j : Nat, 1 ≤ j → j < k → greaterS bes at_ l ≤ greaterS bes j l) →
    ∃ r : Nat, refAt bes l m k at_ = r ∧ 1 ≤ r ∧ r < k + m ∧ ∀ j : Nat, 1 ≤ j → j < k + m → greaterS bes r l ≤ greaterS bes j l := by
  intro m
  induction m with
  | zero => intro k at_ h1 h2 _ hb; exact ⟨at_, rfl, h1, by omega, fun j hj hk => hb j hj (by omega)⟩
  | succ m ih =>
    intro k at_ h1 h2 hk hb
    simp only [refAt]
    by_cases hlt : greaterS bes k l < greaterS bes at_ l
    · rw [if_pos hlt]
      obtain ⟨r, e, r1, r2, r3⟩ := ih (k + 1) k (by omega) (by omega) (by omega) (fun j hj hjk => by
        by_cases hjk2 : j = k
        · subst hjk2; exact Int.le_refl _
        · have := hb j hj (by omega); omega)
      exact ⟨r, e, r1, by omega, fun j hj hjk => r3 j hj (by omega)⟩
    · rw [if_neg hlt]
      obtain ⟨r, e, r1, r2, r3⟩ := ih (k + 1) at_ h1 (by omega) (by omega) (fun j hj hjk => by
        by_cases hjk2 : j = k
        · subst hjk2; omega
        · exact hb j hj (by omega))
      exact ⟨r, e, r1, by omega, fun j hj hjk => r3 j hj (by omega)⟩

theorem great_eq (xs : List Int) (k : Nat) : greaterS 0 k xs = max (xs.take k).sum (xs.sum - (xs.take k).sum) := by
  rw [greater_eq]; simp [great]

/-- There is a place in the middle. -/
theorem middle {xs : List Int} (hM : Made xs) (hs : 504 < xs.sum) : ∃ k, 1 ≤ k ∧ k < xs.length ∧ 2 * max (xs.take k).sum (xs.sum - (xs.take k).sum) ≤ xs.sum + 112 := by
  have key : ∀ m, m ≤ xs.length → 2 * (xs.take m).sum ≤ xs.sum - 112 ∨ ∃ k, 1 ≤ k ∧ k < xs.length ∧ xs.sum - 112 < 2 * (xs.take k).sum ∧ 2 * (xs.take k).sum ≤ xs.sum + 112 := by
    intro m
    induction m with
    | zero => intro _; exact .inl (by simp; omega)
    | succ m ih =>
      intro hm
      rcases ih (by omega) with h | h
      · have hkn := List.getElem?_eq_getElem (l := xs) (i := m) (by omega)
        generalize xs[m] = n at hkn
        have hn := take_next hkn
        have he := hM.each n (List.mem_of_getElem? hkn)
        by_cases h2 : 2 * (xs.take (m + 1)).sum ≤ xs.sum - 112
        · exact .inl h2
        · refine .inr ⟨m + 1, by omega, ?_, by omega, by omega⟩
          rcases Nat.lt_or_ge (m + 1) xs.length with h3 | h3
          · exact h3
          · rw [List.take_of_length_le h3] at hn h2; omega
      · exact .inr h
  rcases key xs.length (Nat.le_refl _) with h | ⟨k, h1, h2, h3, h4⟩
  · rw [List.take_length] at h; omega
  · have := hM.sum
    exact ⟨k, h1, h2, by omega⟩

theorem halves {xs : List Int} (hM : Made xs) (hs : 504 < xs.sum) : ∃ at_ : Nat, splitS xs 0 = .tuple [.int .i64 at_, .nili] ∧ 1 ≤ at_ ∧ at_ < xs.length ∧ 126 ≤ (xs.take at_).sum ∧ (xs.take at_).sum ≤ 504 ∧ 126 ≤ xs.sum - (xs.take at_).sum ∧ xs.sum - (xs.take at_).sum ≤ 504 ∧
    ∀ k, 1 ≤ k → k < xs.length → max (xs.take at_).sum (xs.sum - (xs.take at_).sum) ≤ max (xs.take k).sum (xs.sum - (xs.take k).sum) := by
  obtain ⟨k0, p1, p2, p3⟩ := middle hM hs
  have hlen := hM.len
  have hsum := hM.sum
  have hbad : ¬ badS xs := fun ⟨n, hn, h⟩ => by have := hM.each n hn; omega
  obtain ⟨r, e, r1, r2, r3⟩ := refAt_best 0 xs (xs.length - 2) 2 1 (by omega) (by omega) (by omega) (fun j h1 h2 => by
    obtain rfl : j = 1 := by omega
    exact Int.le_refl _)
  have hb := r3 k0 p1 (by omega)
  rw [great_eq, great_eq] at hb
  have e1 : refAt 0 xs (xs.length - 2) 2 1 = (r : Int) := by rw [← e]; rfl
  have hg : ¬ 504 < greaterS 0 (refAt 0 xs (xs.length - 2) 2 1) xs := by rw [e1, great_eq]; omega
  refine ⟨r, ?_, r1, by omega, by omega, by omega, by omega, by omega, fun k h1 h2 => ?_⟩
  · rw [split_ref]
    have hr : refSplitS xs 0 = ((r : Int), 0) := by
      unfold refSplitS
      rw [if_neg (by rintro (h | h | h | h | h) <;> first | omega | exact hbad h), if_neg hg, e1]
    rw [hr]; simp
  · have := r3 k h1 (by omega)
    rwa [great_eq, great_eq] at this

/-! ### The law -/
set_option maxHeartbeats 1000000 in
set_option maxRecDepth 10000 in
theorem run4 (C : Callees) (hk : Known11 C) (hs : ∀ B, C 14 [] B = some (.bool true, B)) (sz : List Int) (hsz : ∀ n, n ∈ sz → 0 ≤ n ∧ n ≤ 255) (p : Perm) (B : Hp) :
    runV T C fi4 [.vec 1 (sz.map (.int .u8)) p] B = some (.bool true, B) := by
  rw [e_run _ _ _ rfl]
  simp only [fi4, Tryd.f4, an4, T3, T4, T5, T22, T25, T34, e_seq, e_region, e_block, e_cond, e_ret, e_skip, e_exit, e_plain, e_guard, e_nil, e_op, e_ifT, e_ifF, e_true, e_false, e_loop, e_l, e_top, e_seqN, e_seqE, e_seqR, e_blockN, e_blockR, e_blockE,
    e_finN, e_finX, e_finR, retV, resV, resL, outCL, outC, outL, outD, wantedV, opV, An.at_, prune, List.map_cons, List.map_nil, envOf, get, put, eval, ofV, nbeq, nble, binV, binV.aggV, unV, intV, eqOp, isConst, natV, optV, loadV, loadC, storeV, setC, St.at_, partV, indexAddrV, fieldAddrV, sliceV, sliceV.rowSl, sliceV.strSl, bounds, cutP,
    builtinV, lenV, maxL, maxV, appendV, St.elems, roomy, rowOf, rowS, isStr, esz, tdOf, convV, buildV, fillV, partsV, okParts, fillL, D.whole, D.demoteC, D.demote, demoteL, D.global, D.leaf, D.cells, TI.agg, TD.rowish, callOpV, CC, keepB, St.borrowL, St.borrow, D.isLsl, adoptR, adoptC, adoptCL, adoptL, adopt, upd,
    List.toArray, Array.toList, List.length_cons, List.length_nil, List.length_map, List.length_append, List.length_replicate, List.replicate_succ, List.replicate_zero, List.replicate_one, ← List.map_take, ← List.map_drop, List.drop_zero, Nat.zero_le, Nat.le_refl, Nat.sub_zero, List.getElem?_cons_succ, List.getElem?_cons_zero, List.getElem?_nil, List.any_cons, List.any_nil, List.all_cons, List.all_nil, List.append_nil, List.nil_append, List.cons_append, List.set_cons_zero, List.set_cons_succ,
    cond_true, cond_false, decide_true, decide_false, Bool.true_and, Bool.and_true, Bool.false_and, Bool.and_false, Bool.true_or, Bool.or_true, Bool.false_or, Bool.or_false, Bool.not_true, Bool.not_false, Bool.and_self, Bool.or_self, bT, bF, ieq, ine, decide_eq_true_eq, decide_not,
    Nat.reduceEqDiff, Nat.reduceAdd, Nat.reduceSub, Nat.reduceMul, Nat.reduceLeDiff, Nat.reduceLT, Nat.zero_add, Nat.add_zero, Option.getD_some, Option.getD_none, Option.isSome_some, Option.isSome_none, reduceIte, reduceCtorEq, and_self, and_true, true_and, not_true_eq_false, not_false_eq_true, false_imp_iff, forall_const, imp_self,
    Int.reduceNeg, Int.reduceLT, Int.reduceLE, Int.reduceAdd, Int.reduceSub, Int.reduceMul, Int.reduceToNat, Int.reduceEq, ne_eq, eq_self, beq_self_eq_true]
  refine' in_loop (c' := lp4_0) (fin T _) ?h rfl ?q
  case h => exact loopA4 C sz hsz p B 300 0 [] .nilsl [] _ rfl (by omega) (.inl ⟨rfl, rfl⟩) ⟨by simp, by simp, by simp⟩ (by simp) rfl
  rintro x st' ⟨ρ, τ, xs, L, rfl, rfl, hL, hM, hg1, hg2⟩
  simp only [hg1, hg2, T3, T4, T5, T22, T25, T34, e_seq, e_region, e_block, e_cond, e_ret, e_skip, e_exit, e_plain, e_guard, e_nil, e_op, e_ifT, e_ifF, e_true, e_false, e_loop, e_l, e_top, e_seqN, e_seqE, e_seqR, e_blockN, e_blockR, e_blockE,
    e_finN, e_finX, e_finR, retV, resV, resL, outCL, outC, outL, outD, wantedV, opV, An.at_, prune, List.map_cons, List.map_nil, envOf, get, put, eval, ofV, nbeq, nble, binV, binV.aggV, unV, intV, eqOp, isConst, natV, optV, loadV, loadC, storeV, setC, St.at_, partV, indexAddrV, fieldAddrV, sliceV, sliceV.rowSl, sliceV.strSl, bounds, cutP,
    builtinV, lenV, maxL, maxV, appendV, St.elems, roomy, rowOf, rowS, isStr, esz, tdOf, convV, buildV, fillV, partsV, okParts, fillL, D.whole, D.demoteC, D.demote, demoteL, D.global, D.leaf, D.cells, TI.agg, TD.rowish, callOpV, CC, keepB, St.borrowL, St.borrow, D.isLsl, adoptR, adoptC, adoptCL, adoptL, adopt, upd,
    List.toArray, Array.toList, List.length_cons, List.length_nil, List.length_map, List.length_append, List.length_replicate, List.replicate_succ, List.replicate_zero, List.replicate_one, ← List.map_take, ← List.map_drop, List.drop_zero, Nat.zero_le, Nat.le_refl, Nat.sub_zero, List.getElem?_cons_succ, List.getElem?_cons_zero, List.getElem?_nil, List.any_cons, List.any_nil, List.all_cons, List.all_nil, List.append_nil, List.nil_append, List.cons_append, List.set_cons_zero, List.set_cons_succ,
    cond_true, cond_false, decide_true, decide_false, Bool.true_and, Bool.and_true, Bool.false_and, Bool.and_false, Bool.true_or, Bool.or_true, Bool.false_or, Bool.or_false, Bool.not_true, Bool.not_false, Bool.and_self, Bool.or_self, bT, bF, ieq, ine, decide_eq_true_eq, decide_not,
    Nat.reduceEqDiff, Nat.reduceAdd, Nat.reduceSub, Nat.reduceMul, Nat.reduceLeDiff, Nat.reduceLT, Nat.zero_add, Nat.add_zero, Option.getD_some, Option.getD_none, Option.isSome_some, Option.isSome_none, reduceIte, reduceCtorEq, and_self, and_true, true_and, not_true_eq_false, not_false_eq_true, false_imp_iff, forall_const, imp_self,
    Int.reduceNeg, Int.reduceLT, Int.reduceLE, Int.reduceAdd, Int.reduceSub, Int.reduceMul, Int.reduceToNat, Int.reduceEq, ne_eq, eq_self, beq_self_eq_true]
  by_cases h504 : xs.sum ≤ 504
  · simp only [h504, hs, T3, T4, T5, T22, T25, T34, e_seq, e_region, e_block, e_cond, e_ret, e_skip, e_exit, e_plain, e_guard, e_nil, e_op, e_ifT, e_ifF, e_true, e_false, e_loop, e_l, e_top, e_seqN, e_seqE, e_seqR, e_blockN, e_blockR, e_blockE,
    e_finN, e_finX, e_finR, retV, resV, resL, outCL, outC, outL, outD, wantedV, opV, An.at_, prune, List.map_cons, List.map_nil, envOf, get, put, eval, ofV, nbeq, nble, binV, binV.aggV, unV, intV, eqOp, isConst, natV, optV, loadV, loadC, storeV, setC, St.at_, partV, indexAddrV, fieldAddrV, sliceV, sliceV.rowSl, sliceV.strSl, bounds, cutP,
    builtinV, lenV, maxL, maxV, appendV, St.elems, roomy, rowOf, rowS, isStr, esz, tdOf, convV, buildV, fillV, partsV, okParts, fillL, D.whole, D.demoteC, D.demote, demoteL, D.global, D.leaf, D.cells, TI.agg, TD.rowish, callOpV, CC, keepB, St.borrowL, St.borrow, D.isLsl, adoptR, adoptC, adoptCL, adoptL, adopt, upd,
    List.toArray, Array.toList, List.length_cons, List.length_nil, List.length_map, List.length_append, List.length_replicate, List.replicate_succ, List.replicate_zero, List.replicate_one, ← List.map_take, ← List.map_drop, List.drop_zero, Nat.zero_le, Nat.le_refl, Nat.sub_zero, List.getElem?_cons_succ, List.getElem?_cons_zero, List.getElem?_nil, List.any_cons, List.any_nil, List.all_cons, List.all_nil, List.append_nil, List.nil_append, List.cons_append, List.set_cons_zero, List.set_cons_succ,
    cond_true, cond_false, decide_true, decide_false, Bool.true_and, Bool.and_true, Bool.false_and, Bool.and_false, Bool.true_or, Bool.or_true, Bool.false_or, Bool.or_false, Bool.not_true, Bool.not_false, Bool.and_self, Bool.or_self, bT, bF, ieq, ine, decide_eq_true_eq, decide_not,
    Nat.reduceEqDiff, Nat.reduceAdd, Nat.reduceSub, Nat.reduceMul, Nat.reduceLeDiff, Nat.reduceLT, Nat.zero_add, Nat.add_zero, Option.getD_some, Option.getD_none, Option.isSome_some, Option.isSome_none, reduceIte, reduceCtorEq, and_self, and_true, true_and, not_true_eq_false, not_false_eq_true, false_imp_iff, forall_const, imp_self,
    Int.reduceNeg, Int.reduceLT, Int.reduceLE, Int.reduceAdd, Int.reduceSub, Int.reduceMul, Int.reduceToNat, Int.reduceEq, ne_eq, eq_self, beq_self_eq_true]
  rcases hL with ⟨rfl, rfl⟩ | ⟨t, rfl, _⟩
  · simp at h504
  obtain ⟨at_, e, r1, r2, q1, q2, q3, q4, hbest⟩ := halves hM (by omega)
  have hsp := hk.split xs _ 0 B (.inr ⟨.none, rfl⟩)
  rw [e] at hsp
  have c1 : ¬ (at_ : Int) < 1 := by omega
  have c2 : ¬ (at_ : Int) ≥ xs.length := by omega
  simp only [h504, hg1, hg2, hsp, c1, c2, dp, T3, T4, T5, T22, T25, T34, e_seq, e_region, e_block, e_cond, e_ret, e_skip, e_exit, e_plain, e_guard, e_nil, e_op, e_ifT, e_ifF, e_true, e_false, e_loop, e_l, e_top, e_seqN, e_seqE, e_seqR, e_blockN, e_blockR, e_blockE,
    e_finN, e_finX, e_finR, retV, resV, resL, outCL, outC, outL, outD, wantedV, opV, An.at_, prune, List.map_cons, List.map_nil, envOf, get, put, eval, ofV, nbeq, nble, binV, binV.aggV, unV, intV, eqOp, isConst, natV, optV, loadV, loadC, storeV, setC, St.at_, partV, indexAddrV, fieldAddrV, sliceV, sliceV.rowSl, sliceV.strSl, bounds, cutP,
    builtinV, lenV, maxL, maxV, appendV, St.elems, roomy, rowOf, rowS, isStr, esz, tdOf, convV, buildV, fillV, partsV, okParts, fillL, D.whole, D.demoteC, D.demote, demoteL, D.global, D.leaf, D.cells, TI.agg, TD.rowish, callOpV, CC, keepB, St.borrowL, St.borrow, D.isLsl, adoptR, adoptC, adoptCL, adoptL, adopt, upd,
    List.toArray, Array.toList, List.length_cons, List.length_nil, List.length_map, List.length_append, List.length_replicate, List.replicate_succ, List.replicate_zero, List.replicate_one, ← List.map_take, ← List.map_drop, List.drop_zero, Nat.zero_le, Nat.le_refl, Nat.sub_zero, List.getElem?_cons_succ, List.getElem?_cons_zero, List.getElem?_nil, List.any_cons, List.any_nil, List.all_cons, List.all_nil, List.append_nil, List.nil_append, List.cons_append, List.set_cons_zero, List.set_cons_succ,
    cond_true, cond_false, decide_true, decide_false, Bool.true_and, Bool.and_true, Bool.false_and, Bool.and_false, Bool.true_or, Bool.or_true, Bool.false_or, Bool.or_false, Bool.not_true, Bool.not_false, Bool.and_self, Bool.or_self, bT, bF, ieq, ine, decide_eq_true_eq, decide_not,
    Nat.reduceEqDiff, Nat.reduceAdd, Nat.reduceSub, Nat.reduceMul, Nat.reduceLeDiff, Nat.reduceLT, Nat.zero_add, Nat.add_zero, Option.getD_some, Option.getD_none, Option.isSome_some, Option.isSome_none, reduceIte, reduceCtorEq, and_self, and_true, true_and, not_true_eq_false, not_false_eq_true, false_imp_iff, forall_const, imp_self,
    Int.reduceNeg, Int.reduceLT, Int.reduceLE, Int.reduceAdd, Int.reduceSub, Int.reduceMul, Int.reduceToNat, Int.reduceEq, ne_eq, eq_self, beq_self_eq_true]
  refine' in_loop (c' := lp4_1) (fin T _) ?h2 rfl ?q2
  case h2 => exact loopB4 C xs hM t B τ xs.sum at_ (by omega) _ 0 _ rfl (by omega) (by simp only [stB4, An.at_, prune, List.map_cons, List.map_nil, get, put, nbeq, hg1, hg2, an4, List.take_zero, List.sum_nil, e_seq, e_region, e_block, e_cond, e_ret, e_skip, e_exit, e_plain, e_guard, e_nil, e_op, e_ifT, e_ifF, e_true, e_false, e_loop, e_l, e_top, e_seqN, e_seqE, e_seqR, e_blockN, e_blockR, e_blockE,
    e_finN, e_finX, e_finR, retV, resV, resL, outCL, outC, outL, outD, wantedV, opV, An.at_, prune, List.map_cons, List.map_nil, envOf, get, put, eval, ofV, nbeq, nble, binV, binV.aggV, unV, intV, eqOp, isConst, natV, optV, loadV, loadC, storeV, setC, St.at_, partV, indexAddrV, fieldAddrV, sliceV, sliceV.rowSl, sliceV.strSl, bounds, cutP,
    builtinV, lenV, maxL, maxV, appendV, St.elems, roomy, rowOf, rowS, isStr, esz, tdOf, convV, buildV, fillV, partsV, okParts, fillL, D.whole, D.demoteC, D.demote, demoteL, D.global, D.leaf, D.cells, TI.agg, TD.rowish, callOpV, CC, keepB, St.borrowL, St.borrow, D.isLsl, adoptR, adoptC, adoptCL, adoptL, adopt, upd,
    List.toArray, Array.toList, List.length_cons, List.length_nil, List.length_map, List.length_append, List.length_replicate, List.replicate_succ, List.replicate_zero, List.replicate_one, ← List.map_take, ← List.map_drop, List.drop_zero, Nat.zero_le, Nat.le_refl, Nat.sub_zero, List.getElem?_cons_succ, List.getElem?_cons_zero, List.getElem?_nil, List.any_cons, List.any_nil, List.all_cons, List.all_nil, List.append_nil, List.nil_append, List.cons_append, List.set_cons_zero, List.set_cons_succ,
    cond_true, cond_false, decide_true, decide_false, Bool.true_and, Bool.and_true, Bool.false_and, Bool.and_false, Bool.true_or, Bool.or_true, Bool.false_or, Bool.or_false, Bool.not_true, Bool.not_false, Bool.and_self, Bool.or_self, bT, bF, ieq, ine, decide_eq_true_eq, decide_not,
    Nat.reduceEqDiff, Nat.reduceAdd, Nat.reduceSub, Nat.reduceMul, Nat.reduceLeDiff, Nat.reduceLT, Nat.zero_add, Nat.add_zero, Option.getD_some, Option.getD_none, Option.isSome_some, Option.isSome_none, reduceIte, reduceCtorEq, and_self, and_true, true_and, not_true_eq_false, not_false_eq_true, false_imp_iff, forall_const, imp_self,
    Int.reduceNeg, Int.reduceLT, Int.reduceLE, Int.reduceAdd, Int.reduceSub, Int.reduceMul, Int.reduceToNat, Int.reduceEq, ne_eq, eq_self, beq_self_eq_true]; rfl)
  rintro x st' ⟨ρ2, rfl, rfl, k1, k2, k3⟩
  have e1 := hk.enough (xs.take at_).sum B
  have e2 := hk.fits (xs.take at_).sum B
  have e3 := hk.enough (xs.sum - (xs.take at_).sum) B
  have e4 := hk.fits (xs.sum - (xs.take at_).sum) B
  have p1 := (made_take hM at_).1
  have p2 : (0 : Int) ≤ xs.sum - (xs.take at_).sum := by omega
  have w := wrapI (x := xs.sum - (xs.take at_).sum) (by omega) (by omega)
  simp only [q1, q2, q3, q4, p1, p2, decide_true, Bool.and_self] at e1 e2 e3 e4
  simp only [k1, k2, k3, e1, e2, e3, e4, w, T3, T4, T5, T22, T25, T34, e_seq, e_region, e_block, e_cond, e_ret, e_skip, e_exit, e_plain, e_guard, e_nil, e_op, e_ifT, e_ifF, e_true, e_false, e_loop, e_l, e_top, e_seqN, e_seqE, e_seqR, e_blockN, e_blockR, e_blockE,
    e_finN, e_finX, e_finR, retV, resV, resL, outCL, outC, outL, outD, wantedV, opV, An.at_, prune, List.map_cons, List.map_nil, envOf, get, put, eval, ofV, nbeq, nble, binV, binV.aggV, unV, intV, eqOp, isConst, natV, optV, loadV, loadC, storeV, setC, St.at_, partV, indexAddrV, fieldAddrV, sliceV, sliceV.rowSl, sliceV.strSl, bounds, cutP,
    builtinV, lenV, maxL, maxV, appendV, St.elems, roomy, rowOf, rowS, isStr, esz, tdOf, convV, buildV, fillV, partsV, okParts, fillL, D.whole, D.demoteC, D.demote, demoteL, D.global, D.leaf, D.cells, TI.agg, TD.rowish, callOpV, CC, keepB, St.borrowL, St.borrow, D.isLsl, adoptR, adoptC, adoptCL, adoptL, adopt, upd,
    List.toArray, Array.toList, List.length_cons, List.length_nil, List.length_map, List.length_append, List.length_replicate, List.replicate_succ, List.replicate_zero, List.replicate_one, ← List.map_take, ← List.map_drop, List.drop_zero, Nat.zero_le, Nat.le_refl, Nat.sub_zero, List.getElem?_cons_succ, List.getElem?_cons_zero, List.getElem?_nil, List.any_cons, List.any_nil, List.all_cons, List.all_nil, List.append_nil, List.nil_append, List.cons_append, List.set_cons_zero, List.set_cons_succ,
    cond_true, cond_false, decide_true, decide_false, Bool.true_and, Bool.and_true, Bool.false_and, Bool.and_false, Bool.true_or, Bool.or_true, Bool.false_or, Bool.or_false, Bool.not_true, Bool.not_false, Bool.and_self, Bool.or_self, bT, bF, ieq, ine, decide_eq_true_eq, decide_not,
    Nat.reduceEqDiff, Nat.reduceAdd, Nat.reduceSub, Nat.reduceMul, Nat.reduceLeDiff, Nat.reduceLT, Nat.zero_add, Nat.add_zero, Option.getD_some, Option.getD_none, Option.isSome_some, Option.isSome_none, reduceIte, reduceCtorEq, and_self, and_true, true_and, not_true_eq_false, not_false_eq_true, false_imp_iff, forall_const, imp_self,
    Int.reduceNeg, Int.reduceLT, Int.reduceLE, Int.reduceAdd, Int.reduceSub, Int.reduceMul, Int.reduceToNat, Int.reduceEq, ne_eq, eq_self, beq_self_eq_true]
  refine' in_loop (c' := lp4_2) (fin T _) ?h3 rfl ?q3
  case h3 => exact loopC4 C xs hM t B τ at_ hbest _ 0 _ rfl (by simp only [stC4, An.at_, prune, List.map_cons, List.map_nil, get, put, nbeq, k1, k2, k3, an4, List.take_zero, List.sum_nil, e_seq, e_region, e_block, e_cond, e_ret, e_skip, e_exit, e_plain, e_guard, e_nil, e_op, e_ifT, e_ifF, e_true, e_false, e_loop, e_l, e_top, e_seqN, e_seqE, e_seqR, e_blockN, e_blockR, e_blockE,
    e_finN, e_finX, e_finR, retV, resV, resL, outCL, outC, outL, outD, wantedV, opV, An.at_, prune, List.map_cons, List.map_nil, envOf, get, put, eval, ofV, nbeq, nble, binV, binV.aggV, unV, intV, eqOp, isConst, natV, optV, loadV, loadC, storeV, setC, St.at_, partV, indexAddrV, fieldAddrV, sliceV, sliceV.rowSl, sliceV.strSl, bounds, cutP,
    builtinV, lenV, maxL, maxV, appendV, St.elems, roomy, rowOf, rowS, isStr, esz, tdOf, convV, buildV, fillV, partsV, okParts, fillL, D.whole, D.demoteC, D.demote, demoteL, D.global, D.leaf, D.cells, TI.agg, TD.rowish, callOpV, CC, keepB, St.borrowL, St.borrow, D.isLsl, adoptR, adoptC, adoptCL, adoptL, adopt, upd,
    List.toArray, Array.toList, List.length_cons, List.length_nil, List.length_map, List.length_append, List.length_replicate, List.replicate_succ, List.replicate_zero, List.replicate_one, ← List.map_take, ← List.map_drop, List.drop_zero, Nat.zero_le, Nat.le_refl, Nat.sub_zero, List.getElem?_cons_succ, List.getElem?_cons_zero, List.getElem?_nil, List.any_cons, List.any_nil, List.all_cons, List.all_nil, List.append_nil, List.nil_append, List.cons_append, List.set_cons_zero, List.set_cons_succ,
    cond_true, cond_false, decide_true, decide_false, Bool.true_and, Bool.and_true, Bool.false_and, Bool.and_false, Bool.true_or, Bool.or_true, Bool.false_or, Bool.or_false, Bool.not_true, Bool.not_false, Bool.and_self, Bool.or_self, bT, bF, ieq, ine, decide_eq_true_eq, decide_not,
    Nat.reduceEqDiff, Nat.reduceAdd, Nat.reduceSub, Nat.reduceMul, Nat.reduceLeDiff, Nat.reduceLT, Nat.zero_add, Nat.add_zero, Option.getD_some, Option.getD_none, Option.isSome_some, Option.isSome_none, reduceIte, reduceCtorEq, and_self, and_true, true_and, not_true_eq_false, not_false_eq_true, false_imp_iff, forall_const, imp_self,
    Int.reduceNeg, Int.reduceLT, Int.reduceLE, Int.reduceAdd, Int.reduceSub, Int.reduceMul, Int.reduceToNat, Int.reduceEq, ne_eq, eq_self, beq_self_eq_true]; rfl) (by omega)
  rintro x st' ⟨ρ3, rfl, rfl⟩
  simp only [hs, T3, T4, T5, T22, T25, T34, e_seq, e_region, e_block, e_cond, e_ret, e_skip, e_exit, e_plain, e_guard, e_nil, e_op, e_ifT, e_ifF, e_true, e_false, e_loop, e_l, e_top, e_seqN, e_seqE, e_seqR, e_blockN, e_blockR, e_blockE,
    e_finN, e_finX, e_finR, retV, resV, resL, outCL, outC, outL, outD, wantedV, opV, An.at_, prune, List.map_cons, List.map_nil, envOf, get, put, eval, ofV, nbeq, nble, binV, binV.aggV, unV, intV, eqOp, isConst, natV, optV, loadV, loadC, storeV, setC, St.at_, partV, indexAddrV, fieldAddrV, sliceV, sliceV.rowSl, sliceV.strSl, bounds, cutP,
    builtinV, lenV, maxL, maxV, appendV, St.elems, roomy, rowOf, rowS, isStr, esz, tdOf, convV, buildV, fillV, partsV, okParts, fillL, D.whole, D.demoteC, D.demote, demoteL, D.global, D.leaf, D.cells, TI.agg, TD.rowish, callOpV, CC, keepB, St.borrowL, St.borrow, D.isLsl, adoptR, adoptC, adoptCL, adoptL, adopt, upd,
    List.toArray, Array.toList, List.length_cons, List.length_nil, List.length_map, List.length_append, List.length_replicate, List.replicate_succ, List.replicate_zero, List.replicate_one, ← List.map_take, ← List.map_drop, List.drop_zero, Nat.zero_le, Nat.le_refl, Nat.sub_zero, List.getElem?_cons_succ, List.getElem?_cons_zero, List.getElem?_nil, List.any_cons, List.any_nil, List.all_cons, List.all_nil, List.append_nil, List.nil_append, List.cons_append, List.set_cons_zero, List.set_cons_succ,
    cond_true, cond_false, decide_true, decide_false, Bool.true_and, Bool.and_true, Bool.false_and, Bool.and_false, Bool.true_or, Bool.or_true, Bool.false_or, Bool.or_false, Bool.not_true, Bool.not_false, Bool.and_self, Bool.or_self, bT, bF, ieq, ine, decide_eq_true_eq, decide_not,
    Nat.reduceEqDiff, Nat.reduceAdd, Nat.reduceSub, Nat.reduceMul, Nat.reduceLeDiff, Nat.reduceLT, Nat.zero_add, Nat.add_zero, Option.getD_some, Option.getD_none, Option.isSome_some, Option.isSome_none, reduceIte, reduceCtorEq, and_self, and_true, true_and, not_true_eq_false, not_false_eq_true, false_imp_iff, forall_const, imp_self,
    Int.reduceNeg, Int.reduceLT, Int.reduceLE, Int.reduceAdd, Int.reduceSub, Int.reduceMul, Int.reduceToNat, Int.reduceEq, ne_eq, eq_self, beq_self_eq_true]

set_option maxHeartbeats 1000000 in
set_option maxRecDepth 10000 in
theorem run4_nil (C : Callees) (hs : ∀ B, C 14 [] B = some (.bool true, B)) (B : Hp) :
    runV T C fi4 [.nilsl] B = some (.bool true, B) := by
  rw [e_run _ _ _ rfl]
  simp only [fi4, Tryd.f4, an4, T3, T4, T5, T22, T25, T34, e_seq, e_region, e_block, e_cond, e_ret, e_skip, e_exit, e_plain, e_guard, e_nil, e_op, e_ifT, e_ifF, e_true, e_false, e_loop, e_l, e_top, e_seqN, e_seqE, e_seqR, e_blockN, e_blockR, e_blockE,
    e_finN, e_finX, e_finR, retV, resV, resL, outCL, outC, outL, outD, wantedV, opV, An.at_, prune, List.map_cons, List.map_nil, envOf, get, put, eval, ofV, nbeq, nble, binV, binV.aggV, unV, intV, eqOp, isConst, natV, optV, loadV, loadC, storeV, setC, St.at_, partV, indexAddrV, fieldAddrV, sliceV, sliceV.rowSl, sliceV.strSl, bounds, cutP,
    builtinV, lenV, maxL, maxV, appendV, St.elems, roomy, rowOf, rowS, isStr, esz, tdOf, convV, buildV, fillV, partsV, okParts, fillL, D.whole, D.demoteC, D.demote, demoteL, D.global, D.leaf, D.cells, TI.agg, TD.rowish, callOpV, CC, keepB, St.borrowL, St.borrow, D.isLsl, adoptR, adoptC, adoptCL, adoptL, adopt, upd,
    List.toArray, Array.toList, List.length_cons, List.length_nil, List.length_map, List.length_append, List.length_replicate, List.replicate_succ, List.replicate_zero, List.replicate_one, ← List.map_take, ← List.map_drop, List.drop_zero, Nat.zero_le, Nat.le_refl, Nat.sub_zero, List.getElem?_cons_succ, List.getElem?_cons_zero, List.getElem?_nil, List.any_cons, List.any_nil, List.all_cons, List.all_nil, List.append_nil, List.nil_append, List.cons_append, List.set_cons_zero, List.set_cons_succ,
    cond_true, cond_false, decide_true, decide_false, Bool.true_and, Bool.and_true, Bool.false_and, Bool.and_false, Bool.true_or, Bool.or_true, Bool.false_or, Bool.or_false, Bool.not_true, Bool.not_false, Bool.and_self, Bool.or_self, bT, bF, ieq, ine, decide_eq_true_eq, decide_not,
    Nat.reduceEqDiff, Nat.reduceAdd, Nat.reduceSub, Nat.reduceMul, Nat.reduceLeDiff, Nat.reduceLT, Nat.zero_add, Nat.add_zero, Option.getD_some, Option.getD_none, Option.isSome_some, Option.isSome_none, reduceIte, reduceCtorEq, and_self, and_true, true_and, not_true_eq_false, not_false_eq_true, false_imp_iff, forall_const, imp_self,
    Int.reduceNeg, Int.reduceLT, Int.reduceLE, Int.reduceAdd, Int.reduceSub, Int.reduceMul, Int.reduceToNat, Int.reduceEq, ne_eq, eq_self, beq_self_eq_true]
  have hend : ∃ ρ, go T an4 C lp4_0 .top (stA4 .nilsl .nilsl B [] 0 0) = some (.exit 0, ⟨ρ, [], [], B⟩) ∧ get ρ 4 = .int .i64 0 := by
    simp only [stA4, lp4_0, subC, atC, Tryd.f4, an4, Int.cast_ofNat_Int, Int.lt_irrefl, T3, T4, T5, T22, T25, T34, e_seq, e_region, e_block, e_cond, e_ret, e_skip, e_exit, e_plain, e_guard, e_nil, e_op, e_ifT, e_ifF, e_true, e_false, e_loop, e_l, e_top, e_seqN, e_seqE, e_seqR, e_blockN, e_blockR, e_blockE,
    e_finN, e_finX, e_finR, retV, resV, resL, outCL, outC, outL, outD, wantedV, opV, An.at_, prune, List.map_cons, List.map_nil, envOf, get, put, eval, ofV, nbeq, nble, binV, binV.aggV, unV, intV, eqOp, isConst, natV, optV, loadV, loadC, storeV, setC, St.at_, partV, indexAddrV, fieldAddrV, sliceV, sliceV.rowSl, sliceV.strSl, bounds, cutP,
    builtinV, lenV, maxL, maxV, appendV, St.elems, roomy, rowOf, rowS, isStr, esz, tdOf, convV, buildV, fillV, partsV, okParts, fillL, D.whole, D.demoteC, D.demote, demoteL, D.global, D.leaf, D.cells, TI.agg, TD.rowish, callOpV, CC, keepB, St.borrowL, St.borrow, D.isLsl, adoptR, adoptC, adoptCL, adoptL, adopt, upd,
    List.toArray, Array.toList, List.length_cons, List.length_nil, List.length_map, List.length_append, List.length_replicate, List.replicate_succ, List.replicate_zero, List.replicate_one, ← List.map_take, ← List.map_drop, List.drop_zero, Nat.zero_le, Nat.le_refl, Nat.sub_zero, List.getElem?_cons_succ, List.getElem?_cons_zero, List.getElem?_nil, List.any_cons, List.any_nil, List.all_cons, List.all_nil, List.append_nil, List.nil_append, List.cons_append, List.set_cons_zero, List.set_cons_succ,
    cond_true, cond_false, decide_true, decide_false, Bool.true_and, Bool.and_true, Bool.false_and, Bool.and_false, Bool.true_or, Bool.or_true, Bool.false_or, Bool.or_false, Bool.not_true, Bool.not_false, Bool.and_self, Bool.or_self, bT, bF, ieq, ine, decide_eq_true_eq, decide_not,
    Nat.reduceEqDiff, Nat.reduceAdd, Nat.reduceSub, Nat.reduceMul, Nat.reduceLeDiff, Nat.reduceLT, Nat.zero_add, Nat.add_zero, Option.getD_some, Option.getD_none, Option.isSome_some, Option.isSome_none, reduceIte, reduceCtorEq, and_self, and_true, true_and, not_true_eq_false, not_false_eq_true, false_imp_iff, forall_const, imp_self,
    Int.reduceNeg, Int.reduceLT, Int.reduceLE, Int.reduceAdd, Int.reduceSub, Int.reduceMul, Int.reduceToNat, Int.reduceEq, ne_eq, eq_self, beq_self_eq_true]
    exact ⟨_, rfl, rfl⟩
  obtain ⟨ρ, h, hg⟩ := hend
  refine' in_loop (c' := lp4_0) (Q := fun x st' => st' = ⟨ρ, [], [], B⟩ ∧ x = .exit 0) (fin T _) ?h rfl ?q
  case h => exact ⟨_, _, loopC_done (by rw [show firstOf lp4_0 = some 4 from rfl]; exact h) (by simp), rfl, rfl⟩
  rintro x st' ⟨rfl, rfl⟩
  simp only [hg, hs, T3, T4, T5, T22, T25, T34, e_seq, e_region, e_block, e_cond, e_ret, e_skip, e_exit, e_plain, e_guard, e_nil, e_op, e_ifT, e_ifF, e_true, e_false, e_loop, e_l, e_top, e_seqN, e_seqE, e_seqR, e_blockN, e_blockR, e_blockE,
    e_finN, e_finX, e_finR, retV, resV, resL, outCL, outC, outL, outD, wantedV, opV, An.at_, prune, List.map_cons, List.map_nil, envOf, get, put, eval, ofV, nbeq, nble, binV, binV.aggV, unV, intV, eqOp, isConst, natV, optV, loadV, loadC, storeV, setC, St.at_, partV, indexAddrV, fieldAddrV, sliceV, sliceV.rowSl, sliceV.strSl, bounds, cutP,
    builtinV, lenV, maxL, maxV, appendV, St.elems, roomy, rowOf, rowS, isStr, esz, tdOf, convV, buildV, fillV, partsV, okParts, fillL, D.whole, D.demoteC, D.demote, demoteL, D.global, D.leaf, D.cells, TI.agg, TD.rowish, callOpV, CC, keepB, St.borrowL, St.borrow, D.isLsl, adoptR, adoptC, adoptCL, adoptL, adopt, upd,
    List.toArray, Array.toList, List.length_cons, List.length_nil, List.length_map, List.length_append, List.length_replicate, List.replicate_succ, List.replicate_zero, List.replicate_one, ← List.map_take, ← List.map_drop, List.drop_zero, Nat.zero_le, Nat.le_refl, Nat.sub_zero, List.getElem?_cons_succ, List.getElem?_cons_zero, List.getElem?_nil, List.any_cons, List.any_nil, List.all_cons, List.all_nil, List.append_nil, List.nil_append, List.cons_append, List.set_cons_zero, List.set_cons_succ,
    cond_true, cond_false, decide_true, decide_false, Bool.true_and, Bool.and_true, Bool.false_and, Bool.and_false, Bool.true_or, Bool.or_true, Bool.false_or, Bool.or_false, Bool.not_true, Bool.not_false, Bool.and_self, Bool.or_self, bT, bF, ieq, ine, decide_eq_true_eq, decide_not,
    Nat.reduceEqDiff, Nat.reduceAdd, Nat.reduceSub, Nat.reduceMul, Nat.reduceLeDiff, Nat.reduceLT, Nat.zero_add, Nat.add_zero, Option.getD_some, Option.getD_none, Option.isSome_some, Option.isSome_none, reduceIte, reduceCtorEq, and_self, and_true, true_and, not_true_eq_false, not_false_eq_true, false_imp_iff, forall_const, imp_self,
    Int.reduceNeg, Int.reduceLT, Int.reduceLE, Int.reduceAdd, Int.reduceSub, Int.reduceMul, Int.reduceToNat, Int.reduceEq, ne_eq, eq_self, beq_self_eq_true]

end Go.Proofs.YtdmlojinmkcldaaDoor.V
