/-
Layer 11: the document's answer: each place by itself.
-/
import Derived.Test.YtdmlojinmkcldaaDoorLB
namespace Go.Proofs.YtdmlojinmkcldaaDoor.V
open Go Go.RowKit
set_option linter.unusedSimpArgs false
set_option linter.unusedVariables false

/-! warren/warrenref11.Greater -/
def an57 : An := ⟨fun | 3 => some [0, 2, 7, 8, 9] | _ => .none, fun _ => false⟩
noncomputable def fi57 : FI := ⟨3, 36, Tryd.f57.body.getD .skip, Tryd.f57.results.toList, an57⟩
theorem ok57 : FnOk Tryd.prog 57 fi57 := ⟨⟨Tryd.f57, Tryd.func57, by kernel_rfl, rfl, rfl, rfl⟩, by decide, by kernel_rfl⟩
noncomputable def lp57_0 : Code := subC [1, 1, 0, 1, 0, 0] (Tryd.f57.body.getD .skip)   -- keep [0, 2, 7, 8, 9]
/-! warren/warrenref11.Split -/
def an16 : An := ⟨fun | 4 => some [0, 1, 6] | 10 => some [0, 1, 7, 8] | _ => .none, fun _ => false⟩
noncomputable def fi16 : FI := ⟨2, 65, Tryd.f16.body.getD .skip, Tryd.f16.results.toList, an16⟩
theorem ok16 : FnOk Tryd.prog 16 fi16 := ⟨⟨Tryd.f16, Tryd.func16, by kernel_rfl, rfl, rfl, rfl⟩, by decide, by kernel_rfl⟩
noncomputable def lp16_0 : Code := subC [1, 1, 0, 1, 0, 0] (Tryd.f16.body.getD .skip)   -- keep [0, 1, 6]
noncomputable def lp16_1 : Code := subC [1, 1, 1, 1, 0, 1, 0, 0] (Tryd.f16.body.getD .skip)   -- keep [0, 1, 7, 8]

/-- Both nodes, parted by a place. -/
def gr2 (at_ : Int) : List Int → Nat → Int → Int → Int × Int
  | [], _, a, b => (a, b)
  | n :: l, k, a, b => if (k : Int) < at_ then gr2 at_ l (k + 1) (a + n) b else gr2 at_ l (k + 1) a (b + n)

def st57 (l : List Int) (p : Perm) (B : Hp) (at_ : Int) (k : Nat) (a b : Int) : St :=
  ⟨[(0, .vec 1 (l.map (.int .i64)) p), (2, .int .i64 at_), (7, .int .i64 a), (8, .int .i64 b), (9, .int .i64 k)], [], [], B⟩

set_option maxRecDepth 10000 in
theorem body57_end (C : Callees) (l : List Int) (p : Perm) (B : Hp) (at_ a b : Int) :
    ∃ ρ, go T an57 C lp57_0 .top (st57 l p B at_ l.length a b) = some (.exit 0, ⟨ρ, [], [], B⟩) ∧ get ρ 7 = .int .i64 a ∧ get ρ 8 = .int .i64 b := by
  simp only [st57, lp57_0, subC, atC, Tryd.f57, an57, Int.lt_irrefl, T3, T22, e_seq, e_region, e_block, e_cond, e_ret, e_skip, e_exit, e_plain, e_guard, e_nil, e_op, e_ifT, e_ifF, e_true, e_false, e_loop, e_l, e_top, e_seqN, e_seqE, e_seqR, e_blockN, e_blockR, e_blockE,
    e_finN, e_finX, e_finR, retV, resV, resL, outCL, outC, outL, outD, wantedV, opV, An.at_, prune, List.map_cons, List.map_nil, envOf, get, put, eval, ofV, nbeq, nble, binV, binV.aggV, unV, intV, eqOp, isConst, natV, optV, loadV, loadC, storeV, setC, St.at_, partV, indexAddrV, fieldAddrV, sliceV, sliceV.rowSl, sliceV.strSl, bounds, cutP,
    builtinV, lenV, maxL, maxV, appendV, St.elems, roomy, rowOf, rowS, isStr, esz, tdOf, convV, buildV, fillV, partsV, okParts, fillL, D.whole, D.demoteC, D.demote, demoteL, D.global, D.leaf, D.cells, TI.agg, TD.rowish, callOpV, CC, keepB, St.borrowL, St.borrow, D.isLsl, adoptR, adoptC, adoptCL, adoptL, adopt, upd,
    List.toArray, Array.toList, List.length_cons, List.length_nil, List.length_map, List.length_append, List.length_replicate, ← List.map_take, ← List.map_drop, List.drop_zero, Nat.zero_le, Nat.le_refl, Nat.sub_zero, List.getElem?_cons_succ, List.getElem?_cons_zero, List.getElem?_nil, List.any_cons, List.any_nil, List.all_cons, List.all_nil, List.append_nil, List.nil_append, List.cons_append, List.set_cons_zero, List.set_cons_succ,
    cond_true, cond_false, decide_true, decide_false, Bool.true_and, Bool.and_true, Bool.false_and, Bool.and_false, Bool.true_or, Bool.or_true, Bool.false_or, Bool.or_false, Bool.not_true, Bool.not_false, Bool.and_self, Bool.or_self, bT, bF, ieq, ine, decide_eq_true_eq, decide_not,
    Nat.reduceEqDiff, Nat.reduceAdd, Nat.reduceSub, Nat.reduceMul, Nat.reduceLeDiff, Nat.reduceLT, Nat.zero_add, Nat.add_zero, Option.getD_some, Option.getD_none, Option.isSome_some, Option.isSome_none, reduceIte, reduceCtorEq, and_self, and_true, true_and, not_true_eq_false, not_false_eq_true, false_imp_iff, forall_const, imp_self,
    Int.reduceNeg, Int.reduceLT, Int.reduceLE, Int.reduceAdd, Int.reduceSub, Int.reduceMul, Int.reduceToNat, Int.reduceEq, ne_eq, eq_self, beq_self_eq_true]
  exact ⟨_, rfl, rfl, rfl⟩

set_option maxRecDepth 10000 in
theorem body57_ok (C : Callees) (l : List Int) (p : Perm) (B : Hp) (at_ a b n : Int) (k : Nat) (hk : l[k]? = some n) (hn : 0 ≤ n ∧ n ≤ 1024) (ha : 0 ≤ a ∧ a ≤ 1024 * (k + 1)) (hb : 0 ≤ b ∧ b ≤ 1024 * (k + 1)) (h3 : l.length ≤ 1024) :
    ∃ ρ, go T an57 C lp57_0 .top (st57 l p B at_ k a b) = some (.norm, ⟨ρ, [], [], B⟩) ∧
      an57.at_ (some 3) ⟨ρ, [], [], B⟩ = st57 l p B at_ (k + 1) (if (k : Int) < at_ then a + n else a) (if (k : Int) < at_ then b else b + n) := by
  have hlt : (k : Int) < l.length := by have := (List.getElem?_eq_some_iff.1 hk).1; omega
  have h0 : (0 : Int) ≤ k := by omega
  have w1 := wrapI (x := a + n) (by omega) (by omega)
  have w2 := wrapI (x := (k : Int) + 1) (by omega) (by omega)
  have w3 := wrapI (x := b + n) (by omega) (by omega)
  simp only [st57, lp57_0, subC, atC, Tryd.f57, an57, hlt, h0, w1, w2, w3, List.getElem?_map, Int.toNat_natCast, hk, Option.map_some, T3, T22, e_seq, e_region, e_block, e_cond, e_ret, e_skip, e_exit, e_plain, e_guard, e_nil, e_op, e_ifT, e_ifF, e_true, e_false, e_loop, e_l, e_top, e_seqN, e_seqE, e_seqR, e_blockN, e_blockR, e_blockE,
    e_finN, e_finX, e_finR, retV, resV, resL, outCL, outC, outL, outD, wantedV, opV, An.at_, prune, List.map_cons, List.map_nil, envOf, get, put, eval, ofV, nbeq, nble, binV, binV.aggV, unV, intV, eqOp, isConst, natV, optV, loadV, loadC, storeV, setC, St.at_, partV, indexAddrV, fieldAddrV, sliceV, sliceV.rowSl, sliceV.strSl, bounds, cutP,
    builtinV, lenV, maxL, maxV, appendV, St.elems, roomy, rowOf, rowS, isStr, esz, tdOf, convV, buildV, fillV, partsV, okParts, fillL, D.whole, D.demoteC, D.demote, demoteL, D.global, D.leaf, D.cells, TI.agg, TD.rowish, callOpV, CC, keepB, St.borrowL, St.borrow, D.isLsl, adoptR, adoptC, adoptCL, adoptL, adopt, upd,
    List.toArray, Array.toList, List.length_cons, List.length_nil, List.length_map, List.length_append, List.length_replicate, ← List.map_take, ← List.map_drop, List.drop_zero, Nat.zero_le, Nat.le_refl, Nat.sub_zero, List.getElem?_cons_succ, List.getElem?_cons_zero, List.getElem?_nil, List.any_cons, List.any_nil, List.all_cons, List.all_nil, List.append_nil, List.nil_append, List.cons_append, List.set_cons_zero, List.set_cons_succ,
    cond_true, cond_false, decide_true, decide_false, Bool.true_and, Bool.and_true, Bool.false_and, Bool.and_false, Bool.true_or, Bool.or_true, Bool.false_or, Bool.or_false, Bool.not_true, Bool.not_false, Bool.and_self, Bool.or_self, bT, bF, ieq, ine, decide_eq_true_eq, decide_not,
    Nat.reduceEqDiff, Nat.reduceAdd, Nat.reduceSub, Nat.reduceMul, Nat.reduceLeDiff, Nat.reduceLT, Nat.zero_add, Nat.add_zero, Option.getD_some, Option.getD_none, Option.isSome_some, Option.isSome_none, reduceIte, reduceCtorEq, and_self, and_true, true_and, not_true_eq_false, not_false_eq_true, false_imp_iff, forall_const, imp_self,
    Int.reduceNeg, Int.reduceLT, Int.reduceLE, Int.reduceAdd, Int.reduceSub, Int.reduceMul, Int.reduceToNat, Int.reduceEq, ne_eq, eq_self, beq_self_eq_true]
  repeat' ((first | rw [e_if] | rw [e_bool]); split <;> rename_i hc <;> (try simp only [bT, bF, Bool.not_eq_true', decide_eq_true_eq, decide_eq_false_iff_not, Bool.not_eq_true, Bool.not_eq_false, Decidable.not_not] at hc) <;> simp only [hc, hlt, h0, w1, w2, w3, List.getElem?_map, Int.toNat_natCast, hk, Option.map_some, T3, T22, e_seq, e_region, e_block, e_cond, e_ret, e_skip, e_exit, e_plain, e_guard, e_nil, e_op, e_ifT, e_ifF, e_true, e_false, e_loop, e_l, e_top, e_seqN, e_seqE, e_seqR, e_blockN, e_blockR, e_blockE,
    e_finN, e_finX, e_finR, retV, resV, resL, outCL, outC, outL, outD, wantedV, opV, An.at_, prune, List.map_cons, List.map_nil, envOf, get, put, eval, ofV, nbeq, nble, binV, binV.aggV, unV, intV, eqOp, isConst, natV, optV, loadV, loadC, storeV, setC, St.at_, partV, indexAddrV, fieldAddrV, sliceV, sliceV.rowSl, sliceV.strSl, bounds, cutP,
    builtinV, lenV, maxL, maxV, appendV, St.elems, roomy, rowOf, rowS, isStr, esz, tdOf, convV, buildV, fillV, partsV, okParts, fillL, D.whole, D.demoteC, D.demote, demoteL, D.global, D.leaf, D.cells, TI.agg, TD.rowish, callOpV, CC, keepB, St.borrowL, St.borrow, D.isLsl, adoptR, adoptC, adoptCL, adoptL, adopt, upd,
    List.toArray, Array.toList, List.length_cons, List.length_nil, List.length_map, List.length_append, List.length_replicate, ← List.map_take, ← List.map_drop, List.drop_zero, Nat.zero_le, Nat.le_refl, Nat.sub_zero, List.getElem?_cons_succ, List.getElem?_cons_zero, List.getElem?_nil, List.any_cons, List.any_nil, List.all_cons, List.all_nil, List.append_nil, List.nil_append, List.cons_append, List.set_cons_zero, List.set_cons_succ,
    cond_true, cond_false, decide_true, decide_false, Bool.true_and, Bool.and_true, Bool.false_and, Bool.and_false, Bool.true_or, Bool.or_true, Bool.false_or, Bool.or_false, Bool.not_true, Bool.not_false, Bool.and_self, Bool.or_self, bT, bF, ieq, ine, decide_eq_true_eq, decide_not,
    Nat.reduceEqDiff, Nat.reduceAdd, Nat.reduceSub, Nat.reduceMul, Nat.reduceLeDiff, Nat.reduceLT, Nat.zero_add, Nat.add_zero, Option.getD_some, Option.getD_none, Option.isSome_some, Option.isSome_none, reduceIte, reduceCtorEq, and_self, and_true, true_and, not_true_eq_false, not_false_eq_true, false_imp_iff, forall_const, imp_self,
    Int.reduceNeg, Int.reduceLT, Int.reduceLE, Int.reduceAdd, Int.reduceSub, Int.reduceMul, Int.reduceToNat, Int.reduceEq, ne_eq, eq_self, beq_self_eq_true])
  all_goals refine ⟨_, rfl, ?_⟩
  all_goals simp only [get, *, Int.natCast_add, Int.natCast_one, Int.cast_ofNat_Int, e_seq, e_region, e_block, e_cond, e_ret, e_skip, e_exit, e_plain, e_guard, e_nil, e_op, e_ifT, e_ifF, e_true, e_false, e_loop, e_l, e_top, e_seqN, e_seqE, e_seqR, e_blockN, e_blockR, e_blockE,
    e_finN, e_finX, e_finR, retV, resV, resL, outCL, outC, outL, outD, wantedV, opV, An.at_, prune, List.map_cons, List.map_nil, envOf, get, put, eval, ofV, nbeq, nble, binV, binV.aggV, unV, intV, eqOp, isConst, natV, optV, loadV, loadC, storeV, setC, St.at_, partV, indexAddrV, fieldAddrV, sliceV, sliceV.rowSl, sliceV.strSl, bounds, cutP,
    builtinV, lenV, maxL, maxV, appendV, St.elems, roomy, rowOf, rowS, isStr, esz, tdOf, convV, buildV, fillV, partsV, okParts, fillL, D.whole, D.demoteC, D.demote, demoteL, D.global, D.leaf, D.cells, TI.agg, TD.rowish, callOpV, CC, keepB, St.borrowL, St.borrow, D.isLsl, adoptR, adoptC, adoptCL, adoptL, adopt, upd,
    List.toArray, Array.toList, List.length_cons, List.length_nil, List.length_map, List.length_append, List.length_replicate, ← List.map_take, ← List.map_drop, List.drop_zero, Nat.zero_le, Nat.le_refl, Nat.sub_zero, List.getElem?_cons_succ, List.getElem?_cons_zero, List.getElem?_nil, List.any_cons, List.any_nil, List.all_cons, List.all_nil, List.append_nil, List.nil_append, List.cons_append, List.set_cons_zero, List.set_cons_succ,
    cond_true, cond_false, decide_true, decide_false, Bool.true_and, Bool.and_true, Bool.false_and, Bool.and_false, Bool.true_or, Bool.or_true, Bool.false_or, Bool.or_false, Bool.not_true, Bool.not_false, Bool.and_self, Bool.or_self, bT, bF, ieq, ine, decide_eq_true_eq, decide_not,
    Nat.reduceEqDiff, Nat.reduceAdd, Nat.reduceSub, Nat.reduceMul, Nat.reduceLeDiff, Nat.reduceLT, Nat.zero_add, Nat.add_zero, Option.getD_some, Option.getD_none, Option.isSome_some, Option.isSome_none, reduceIte, reduceCtorEq, and_self, and_true, true_and, not_true_eq_false, not_false_eq_true, false_imp_iff, forall_const, imp_self,
    Int.reduceNeg, Int.reduceLT, Int.reduceLE, Int.reduceAdd, Int.reduceSub, Int.reduceMul, Int.reduceToNat, Int.reduceEq, ne_eq, eq_self, beq_self_eq_true]

theorem loop57 (C : Callees) (l : List Int) (p : Perm) (B : Hp) (at_ : Int) (h3 : l.length ≤ 1024) (hl : ¬ badS l) : ∀ (m k : Nat) (a b : Int) (st : St), l.length - k = m → k ≤ l.length → (0 ≤ a ∧ a ≤ 1024 * (k + 1)) → (0 ≤ b ∧ b ≤ 1024 * (k + 1)) →
    an57.at_ (some 3) st = st57 l p B at_ k a b →
    ∃ x st', loopC T an57 C lp57_0 st = some (x, st') ∧ ∃ ρ, st' = ⟨ρ, [], [], B⟩ ∧ x = .exit 0 ∧ get ρ 7 = .int .i64 (gr2 at_ (l.drop k) k a b).1 ∧ get ρ 8 = .int .i64 (gr2 at_ (l.drop k) k a b).2 := by
  intro m
  induction m with
  | zero =>
    intro k a b st hm hk h0 h1 hst
    have hkl : k = l.length := by omega
    subst hkl
    obtain ⟨ρ, h, hg1, hg2⟩ := body57_end C l p B at_ a b
    refine ⟨_, _, loopC_done (by rw [show firstOf lp57_0 = some 3 from rfl, hst]; exact h) (by simp), ρ, rfl, rfl, by simpa [gr2] using hg1, by simpa [gr2] using hg2⟩
  | succ m ih =>
    intro k a b st hm hk h0 h1 hst
    have hlt : k < l.length := by omega
    have hkn := List.getElem?_eq_getElem hlt
    generalize l[k] = n at hkn
    have hd : l.drop k = n :: l.drop (k + 1) := by
      rw [List.drop_eq_getElem_cons hlt]
      have := (List.getElem?_eq_some_iff.1 hkn).2
      rw [this]
    have hn : ¬ (n < 0 ∨ 1024 < n) := fun h => hl ⟨n, List.mem_of_getElem? hkn, h⟩
    obtain ⟨ρ, h, hg⟩ := body57_ok C l p B at_ a b n k hkn (by omega) h0 h1 h3
    obtain ⟨x, st', h4, ρ', h5, h6, h7, h8⟩ := ih (k + 1) _ _ ⟨ρ, [], [], B⟩ (by omega) (by omega) (by split <;> omega) (by split <;> omega) hg
    refine ⟨x, st', loopC_next (by rw [show firstOf lp57_0 = some 3 from rfl, hst]; exact h) h4, ρ', h5, h6, ?_, ?_⟩
    · rw [h7, hd]; simp only [gr2]; split <;> rfl
    · rw [h8, hd]; simp only [gr2]; split <;> rfl

def greaterS (bes at_ : Int) (l : List Int) : Int := max (gr2 at_ l 0 bes bes).1 (gr2 at_ l 0 bes bes).2

set_option maxRecDepth 10000 in
theorem run57 (C : Callees) (l : List Int) (p : Perm) (bes at_ : Int) (B : Hp) (h3 : l.length ≤ 1024) (hl : ¬ badS l) (hb : 0 ≤ bes ∧ bes ≤ 1024) :
    runV T C fi57 [.vec 1 (l.map (.int .i64)) p, .int .i64 bes, .int .i64 at_] B = some (.int .i64 (greaterS bes at_ l), B) := by
  rw [e_run _ _ _ rfl]
  simp only [fi57, Tryd.f57, an57, T3, T22, e_seq, e_region, e_block, e_cond, e_ret, e_skip, e_exit, e_plain, e_guard, e_nil, e_op, e_ifT, e_ifF, e_true, e_false, e_loop, e_l, e_top, e_seqN, e_seqE, e_seqR, e_blockN, e_blockR, e_blockE,
    e_finN, e_finX, e_finR, retV, resV, resL, outCL, outC, outL, outD, wantedV, opV, An.at_, prune, List.map_cons, List.map_nil, envOf, get, put, eval, ofV, nbeq, nble, binV, binV.aggV, unV, intV, eqOp, isConst, natV, optV, loadV, loadC, storeV, setC, St.at_, partV, indexAddrV, fieldAddrV, sliceV, sliceV.rowSl, sliceV.strSl, bounds, cutP,
    builtinV, lenV, maxL, maxV, appendV, St.elems, roomy, rowOf, rowS, isStr, esz, tdOf, convV, buildV, fillV, partsV, okParts, fillL, D.whole, D.demoteC, D.demote, demoteL, D.global, D.leaf, D.cells, TI.agg, TD.rowish, callOpV, CC, keepB, St.borrowL, St.borrow, D.isLsl, adoptR, adoptC, adoptCL, adoptL, adopt, upd,
    List.toArray, Array.toList, List.length_cons, List.length_nil, List.length_map, List.length_append, List.length_replicate, ← List.map_take, ← List.map_drop, List.drop_zero, Nat.zero_le, Nat.le_refl, Nat.sub_zero, List.getElem?_cons_succ, List.getElem?_cons_zero, List.getElem?_nil, List.any_cons, List.any_nil, List.all_cons, List.all_nil, List.append_nil, List.nil_append, List.cons_append, List.set_cons_zero, List.set_cons_succ,
    cond_true, cond_false, decide_true, decide_false, Bool.true_and, Bool.and_true, Bool.false_and, Bool.and_false, Bool.true_or, Bool.or_true, Bool.false_or, Bool.or_false, Bool.not_true, Bool.not_false, Bool.and_self, Bool.or_self, bT, bF, ieq, ine, decide_eq_true_eq, decide_not,
    Nat.reduceEqDiff, Nat.reduceAdd, Nat.reduceSub, Nat.reduceMul, Nat.reduceLeDiff, Nat.reduceLT, Nat.zero_add, Nat.add_zero, Option.getD_some, Option.getD_none, Option.isSome_some, Option.isSome_none, reduceIte, reduceCtorEq, and_self, and_true, true_and, not_true_eq_false, not_false_eq_true, false_imp_iff, forall_const, imp_self,
    Int.reduceNeg, Int.reduceLT, Int.reduceLE, Int.reduceAdd, Int.reduceSub, Int.reduceMul, Int.reduceToNat, Int.reduceEq, ne_eq, eq_self, beq_self_eq_true]
  refine' in_loop (c' := lp57_0) (fin T _) ?h rfl ?q
  case h => exact loop57 C l p B at_ h3 hl _ 0 bes bes _ rfl (by omega) (by omega) (by omega) rfl
  rintro x st' ⟨ρ, rfl, rfl, hg1, hg2⟩
  simp only [List.drop_zero] at hg1 hg2
  simp only [hg1, hg2, T3, T22, e_seq, e_region, e_block, e_cond, e_ret, e_skip, e_exit, e_plain, e_guard, e_nil, e_op, e_ifT, e_ifF, e_true, e_false, e_loop, e_l, e_top, e_seqN, e_seqE, e_seqR, e_blockN, e_blockR, e_blockE,
    e_finN, e_finX, e_finR, retV, resV, resL, outCL, outC, outL, outD, wantedV, opV, An.at_, prune, List.map_cons, List.map_nil, envOf, get, put, eval, ofV, nbeq, nble, binV, binV.aggV, unV, intV, eqOp, isConst, natV, optV, loadV, loadC, storeV, setC, St.at_, partV, indexAddrV, fieldAddrV, sliceV, sliceV.rowSl, sliceV.strSl, bounds, cutP,
    builtinV, lenV, maxL, maxV, appendV, St.elems, roomy, rowOf, rowS, isStr, esz, tdOf, convV, buildV, fillV, partsV, okParts, fillL, D.whole, D.demoteC, D.demote, demoteL, D.global, D.leaf, D.cells, TI.agg, TD.rowish, callOpV, CC, keepB, St.borrowL, St.borrow, D.isLsl, adoptR, adoptC, adoptCL, adoptL, adopt, upd,
    List.toArray, Array.toList, List.length_cons, List.length_nil, List.length_map, List.length_append, List.length_replicate, ← List.map_take, ← List.map_drop, List.drop_zero, Nat.zero_le, Nat.le_refl, Nat.sub_zero, List.getElem?_cons_succ, List.getElem?_cons_zero, List.getElem?_nil, List.any_cons, List.any_nil, List.all_cons, List.all_nil, List.append_nil, List.nil_append, List.cons_append, List.set_cons_zero, List.set_cons_succ,
    cond_true, cond_false, decide_true, decide_false, Bool.true_and, Bool.and_true, Bool.false_and, Bool.and_false, Bool.true_or, Bool.or_true, Bool.false_or, Bool.or_false, Bool.not_true, Bool.not_false, Bool.and_self, Bool.or_self, bT, bF, ieq, ine, decide_eq_true_eq, decide_not,
    Nat.reduceEqDiff, Nat.reduceAdd, Nat.reduceSub, Nat.reduceMul, Nat.reduceLeDiff, Nat.reduceLT, Nat.zero_add, Nat.add_zero, Option.getD_some, Option.getD_none, Option.isSome_some, Option.isSome_none, reduceIte, reduceCtorEq, and_self, and_true, true_and, not_true_eq_false, not_false_eq_true, false_imp_iff, forall_const, imp_self,
    Int.reduceNeg, Int.reduceLT, Int.reduceLE, Int.reduceAdd, Int.reduceSub, Int.reduceMul, Int.reduceToNat, Int.reduceEq, ne_eq, eq_self, beq_self_eq_true]
  have : (if (gr2 at_ l 0 bes bes).2 > (gr2 at_ l 0 bes bes).1 then (gr2 at_ l 0 bes bes).2 else (gr2 at_ l 0 bes bes).1) = greaterS bes at_ l := by unfold greaterS; split <;> omega
  rw [this]

/-! ### Split -/
def stA16 (l : List Int) (p : Perm) (B : Hp) (bes : Int) (k : Nat) : St := ⟨[(0, .vec 1 (l.map (.int .i64)) p), (1, .int .i64 bes), (6, .int .i64 k)], [], [], B⟩

set_option maxRecDepth 10000 in
theorem bodyA16_end (C : Callees) (l : List Int) (p : Perm) (B : Hp) (bes : Int) :
    ∃ ρ, go T an16 C lp16_0 .top (stA16 l p B bes l.length) = some (.exit 0, ⟨ρ, [], [], B⟩) ∧ get ρ 0 = .vec 1 (l.map (.int .i64)) p ∧ get ρ 1 = .int .i64 bes := by
  simp only [stA16, lp16_0, subC, atC, Tryd.f16, an16, Int.lt_irrefl, T3, T22, e_seq, e_region, e_block, e_cond, e_ret, e_skip, e_exit, e_plain, e_guard, e_nil, e_op, e_ifT, e_ifF, e_true, e_false, e_loop, e_l, e_top, e_seqN, e_seqE, e_seqR, e_blockN, e_blockR, e_blockE,
    e_finN, e_finX, e_finR, retV, resV, resL, outCL, outC, outL, outD, wantedV, opV, An.at_, prune, List.map_cons, List.map_nil, envOf, get, put, eval, ofV, nbeq, nble, binV, binV.aggV, unV, intV, eqOp, isConst, natV, optV, loadV, loadC, storeV, setC, St.at_, partV, indexAddrV, fieldAddrV, sliceV, sliceV.rowSl, sliceV.strSl, bounds, cutP,
    builtinV, lenV, maxL, maxV, appendV, St.elems, roomy, rowOf, rowS, isStr, esz, tdOf, convV, buildV, fillV, partsV, okParts, fillL, D.whole, D.demoteC, D.demote, demoteL, D.global, D.leaf, D.cells, TI.agg, TD.rowish, callOpV, CC, keepB, St.borrowL, St.borrow, D.isLsl, adoptR, adoptC, adoptCL, adoptL, adopt, upd,
    List.toArray, Array.toList, List.length_cons, List.length_nil, List.length_map, List.length_append, List.length_replicate, ← List.map_take, ← List.map_drop, List.drop_zero, Nat.zero_le, Nat.le_refl, Nat.sub_zero, List.getElem?_cons_succ, List.getElem?_cons_zero, List.getElem?_nil, List.any_cons, List.any_nil, List.all_cons, List.all_nil, List.append_nil, List.nil_append, List.cons_append, List.set_cons_zero, List.set_cons_succ,
    cond_true, cond_false, decide_true, decide_false, Bool.true_and, Bool.and_true, Bool.false_and, Bool.and_false, Bool.true_or, Bool.or_true, Bool.false_or, Bool.or_false, Bool.not_true, Bool.not_false, Bool.and_self, Bool.or_self, bT, bF, ieq, ine, decide_eq_true_eq, decide_not,
    Nat.reduceEqDiff, Nat.reduceAdd, Nat.reduceSub, Nat.reduceMul, Nat.reduceLeDiff, Nat.reduceLT, Nat.zero_add, Nat.add_zero, Option.getD_some, Option.getD_none, Option.isSome_some, Option.isSome_none, reduceIte, reduceCtorEq, and_self, and_true, true_and, not_true_eq_false, not_false_eq_true, false_imp_iff, forall_const, imp_self,
    Int.reduceNeg, Int.reduceLT, Int.reduceLE, Int.reduceAdd, Int.reduceSub, Int.reduceMul, Int.reduceToNat, Int.reduceEq, ne_eq, eq_self, beq_self_eq_true]
  exact ⟨_, rfl, rfl, rfl⟩

set_option maxRecDepth 10000 in
theorem bodyA16_bad (C : Callees) (l : List Int) (p : Perm) (B : Hp) (bes n : Int) (k : Nat) (hk : l[k]? = some n) (hn : n < 0 ∨ 1024 < n) :
    ∃ ρ, go T an16 C lp16_0 .top (stA16 l p B bes k) = some (.ret, ⟨ρ, [], [], B⟩) ∧ get ρ 4 = .int .i64 0 ∧ get ρ 5 = .int .i64 1 := by
  have hlt : (k : Int) < l.length := by have := (List.getElem?_eq_some_iff.1 hk).1; omega
  have h0 : (0 : Int) ≤ k := by omega
  simp only [stA16, lp16_0, subC, atC, Tryd.f16, an16, hlt, h0, List.getElem?_map, Int.toNat_natCast, hk, Option.map_some, T3, T22, e_seq, e_region, e_block, e_cond, e_ret, e_skip, e_exit, e_plain, e_guard, e_nil, e_op, e_ifT, e_ifF, e_true, e_false, e_loop, e_l, e_top, e_seqN, e_seqE, e_seqR, e_blockN, e_blockR, e_blockE,
    e_finN, e_finX, e_finR, retV, resV, resL, outCL, outC, outL, outD, wantedV, opV, An.at_, prune, List.map_cons, List.map_nil, envOf, get, put, eval, ofV, nbeq, nble, binV, binV.aggV, unV, intV, eqOp, isConst, natV, optV, loadV, loadC, storeV, setC, St.at_, partV, indexAddrV, fieldAddrV, sliceV, sliceV.rowSl, sliceV.strSl, bounds, cutP,
    builtinV, lenV, maxL, maxV, appendV, St.elems, roomy, rowOf, rowS, isStr, esz, tdOf, convV, buildV, fillV, partsV, okParts, fillL, D.whole, D.demoteC, D.demote, demoteL, D.global, D.leaf, D.cells, TI.agg, TD.rowish, callOpV, CC, keepB, St.borrowL, St.borrow, D.isLsl, adoptR, adoptC, adoptCL, adoptL, adopt, upd,
    List.toArray, Array.toList, List.length_cons, List.length_nil, List.length_map, List.length_append, List.length_replicate, ← List.map_take, ← List.map_drop, List.drop_zero, Nat.zero_le, Nat.le_refl, Nat.sub_zero, List.getElem?_cons_succ, List.getElem?_cons_zero, List.getElem?_nil, List.any_cons, List.any_nil, List.all_cons, List.all_nil, List.append_nil, List.nil_append, List.cons_append, List.set_cons_zero, List.set_cons_succ,
    cond_true, cond_false, decide_true, decide_false, Bool.true_and, Bool.and_true, Bool.false_and, Bool.and_false, Bool.true_or, Bool.or_true, Bool.false_or, Bool.or_false, Bool.not_true, Bool.not_false, Bool.and_self, Bool.or_self, bT, bF, ieq, ine, decide_eq_true_eq, decide_not,
    Nat.reduceEqDiff, Nat.reduceAdd, Nat.reduceSub, Nat.reduceMul, Nat.reduceLeDiff, Nat.reduceLT, Nat.zero_add, Nat.add_zero, Option.getD_some, Option.getD_none, Option.isSome_some, Option.isSome_none, reduceIte, reduceCtorEq, and_self, and_true, true_and, not_true_eq_false, not_false_eq_true, false_imp_iff, forall_const, imp_self,
    Int.reduceNeg, Int.reduceLT, Int.reduceLE, Int.reduceAdd, Int.reduceSub, Int.reduceMul, Int.reduceToNat, Int.reduceEq, ne_eq, eq_self, beq_self_eq_true]
  repeat' ((first | rw [e_if] | rw [e_bool]); split <;> rename_i hc <;> (try simp only [bT, bF, Bool.not_eq_true', decide_eq_true_eq, decide_eq_false_iff_not, Bool.not_eq_true, Bool.not_eq_false, Decidable.not_not] at hc) <;> simp only [hc, hlt, h0, List.getElem?_map, Int.toNat_natCast, hk, Option.map_some, T3, T22, e_seq, e_region, e_block, e_cond, e_ret, e_skip, e_exit, e_plain, e_guard, e_nil, e_op, e_ifT, e_ifF, e_true, e_false, e_loop, e_l, e_top, e_seqN, e_seqE, e_seqR, e_blockN, e_blockR, e_blockE,
    e_finN, e_finX, e_finR, retV, resV, resL, outCL, outC, outL, outD, wantedV, opV, An.at_, prune, List.map_cons, List.map_nil, envOf, get, put, eval, ofV, nbeq, nble, binV, binV.aggV, unV, intV, eqOp, isConst, natV, optV, loadV, loadC, storeV, setC, St.at_, partV, indexAddrV, fieldAddrV, sliceV, sliceV.rowSl, sliceV.strSl, bounds, cutP,
    builtinV, lenV, maxL, maxV, appendV, St.elems, roomy, rowOf, rowS, isStr, esz, tdOf, convV, buildV, fillV, partsV, okParts, fillL, D.whole, D.demoteC, D.demote, demoteL, D.global, D.leaf, D.cells, TI.agg, TD.rowish, callOpV, CC, keepB, St.borrowL, St.borrow, D.isLsl, adoptR, adoptC, adoptCL, adoptL, adopt, upd,
    List.toArray, Array.toList, List.length_cons, List.length_nil, List.length_map, List.length_append, List.length_replicate, ← List.map_take, ← List.map_drop, List.drop_zero, Nat.zero_le, Nat.le_refl, Nat.sub_zero, List.getElem?_cons_succ, List.getElem?_cons_zero, List.getElem?_nil, List.any_cons, List.any_nil, List.all_cons, List.all_nil, List.append_nil, List.nil_append, List.cons_append, List.set_cons_zero, List.set_cons_succ,
    cond_true, cond_false, decide_true, decide_false, Bool.true_and, Bool.and_true, Bool.false_and, Bool.and_false, Bool.true_or, Bool.or_true, Bool.false_or, Bool.or_false, Bool.not_true, Bool.not_false, Bool.and_self, Bool.or_self, bT, bF, ieq, ine, decide_eq_true_eq, decide_not,
    Nat.reduceEqDiff, Nat.reduceAdd, Nat.reduceSub, Nat.reduceMul, Nat.reduceLeDiff, Nat.reduceLT, Nat.zero_add, Nat.add_zero, Option.getD_some, Option.getD_none, Option.isSome_some, Option.isSome_none, reduceIte, reduceCtorEq, and_self, and_true, true_and, not_true_eq_false, not_false_eq_true, false_imp_iff, forall_const, imp_self,
    Int.reduceNeg, Int.reduceLT, Int.reduceLE, Int.reduceAdd, Int.reduceSub, Int.reduceMul, Int.reduceToNat, Int.reduceEq, ne_eq, eq_self, beq_self_eq_true])
  all_goals first | exact ⟨_, rfl, rfl, rfl⟩ | omega

set_option maxRecDepth 10000 in
theorem bodyA16_ok (C : Callees) (l : List Int) (p : Perm) (B : Hp) (bes n : Int) (k : Nat) (hk : l[k]? = some n) (hn : 0 ≤ n ∧ n ≤ 1024) (h3 : l.length ≤ 1024) :
    ∃ ρ, go T an16 C lp16_0 .top (stA16 l p B bes k) = some (.norm, ⟨ρ, [], [], B⟩) ∧
      an16.at_ (some 4) ⟨ρ, [], [], B⟩ = stA16 l p B bes (k + 1) := by
  have hlt : (k : Int) < l.length := by have := (List.getElem?_eq_some_iff.1 hk).1; omega
  have h0 : (0 : Int) ≤ k := by omega
  have hn1 : ¬ n < 0 := by omega
  have hn2 : ¬ n > 1024 := by omega
  have w2 := wrapI (x := (k : Int) + 1) (by omega) (by omega)
  simp only [stA16, lp16_0, subC, atC, Tryd.f16, an16, hlt, h0, hn1, hn2, w2, List.getElem?_map, Int.toNat_natCast, hk, Option.map_some, T3, T22, e_seq, e_region, e_block, e_cond, e_ret, e_skip, e_exit, e_plain, e_guard, e_nil, e_op, e_ifT, e_ifF, e_true, e_false, e_loop, e_l, e_top, e_seqN, e_seqE, e_seqR, e_blockN, e_blockR, e_blockE,
    e_finN, e_finX, e_finR, retV, resV, resL, outCL, outC, outL, outD, wantedV, opV, An.at_, prune, List.map_cons, List.map_nil, envOf, get, put, eval, ofV, nbeq, nble, binV, binV.aggV, unV, intV, eqOp, isConst, natV, optV, loadV, loadC, storeV, setC, St.at_, partV, indexAddrV, fieldAddrV, sliceV, sliceV.rowSl, sliceV.strSl, bounds, cutP,
    builtinV, lenV, maxL, maxV, appendV, St.elems, roomy, rowOf, rowS, isStr, esz, tdOf, convV, buildV, fillV, partsV, okParts, fillL, D.whole, D.demoteC, D.demote, demoteL, D.global, D.leaf, D.cells, TI.agg, TD.rowish, callOpV, CC, keepB, St.borrowL, St.borrow, D.isLsl, adoptR, adoptC, adoptCL, adoptL, adopt, upd,
    List.toArray, Array.toList, List.length_cons, List.length_nil, List.length_map, List.length_append, List.length_replicate, ← List.map_take, ← List.map_drop, List.drop_zero, Nat.zero_le, Nat.le_refl, Nat.sub_zero, List.getElem?_cons_succ, List.getElem?_cons_zero, List.getElem?_nil, List.any_cons, List.any_nil, List.all_cons, List.all_nil, List.append_nil, List.nil_append, List.cons_append, List.set_cons_zero, List.set_cons_succ,
    cond_true, cond_false, decide_true, decide_false, Bool.true_and, Bool.and_true, Bool.false_and, Bool.and_false, Bool.true_or, Bool.or_true, Bool.false_or, Bool.or_false, Bool.not_true, Bool.not_false, Bool.and_self, Bool.or_self, bT, bF, ieq, ine, decide_eq_true_eq, decide_not,
    Nat.reduceEqDiff, Nat.reduceAdd, Nat.reduceSub, Nat.reduceMul, Nat.reduceLeDiff, Nat.reduceLT, Nat.zero_add, Nat.add_zero, Option.getD_some, Option.getD_none, Option.isSome_some, Option.isSome_none, reduceIte, reduceCtorEq, and_self, and_true, true_and, not_true_eq_false, not_false_eq_true, false_imp_iff, forall_const, imp_self,
    Int.reduceNeg, Int.reduceLT, Int.reduceLE, Int.reduceAdd, Int.reduceSub, Int.reduceMul, Int.reduceToNat, Int.reduceEq, ne_eq, eq_self, beq_self_eq_true]
  exact ⟨_, rfl, rfl⟩

theorem loopA16 (C : Callees) (l : List Int) (p : Perm) (B : Hp) (bes : Int) (h3 : l.length ≤ 1024) : ∀ (m k : Nat) (st : St), l.length - k = m → k ≤ l.length →
    an16.at_ (some 4) st = stA16 l p B bes k →
    ∃ x st', loopC T an16 C lp16_0 st = some (x, st') ∧ ∃ ρ, st' = ⟨ρ, [], [], B⟩ ∧ ((x = .ret ∧ badS (l.drop k) ∧ get ρ 4 = .int .i64 0 ∧ get ρ 5 = .int .i64 1) ∨ (x = .exit 0 ∧ ¬ badS (l.drop k) ∧ get ρ 0 = .vec 1 (l.map (.int .i64)) p ∧ get ρ 1 = .int .i64 bes)) := by
  intro m
  induction m with
  | zero =>
    intro k st hm hk hst
    have hkl : k = l.length := by omega
    subst hkl
    obtain ⟨ρ, h, hg1, hg2⟩ := bodyA16_end C l p B bes
    exact ⟨_, _, loopC_done (by rw [show firstOf lp16_0 = some 4 from rfl, hst]; exact h) (by simp), ρ, rfl, .inr ⟨rfl, by simp [badS], hg1, hg2⟩⟩
  | succ m ih =>
    intro k st hm hk hst
    have hlt : k < l.length := by omega
    have hkn := List.getElem?_eq_getElem hlt
    generalize l[k] = n at hkn
    have hd : l.drop k = n :: l.drop (k + 1) := by
      rw [List.drop_eq_getElem_cons hlt]
      have := (List.getElem?_eq_some_iff.1 hkn).2
      rw [this]
    rw [hd, badS_cons]
    by_cases hb : n < 0 ∨ 1024 < n
    · obtain ⟨ρ, h, hg1, hg2⟩ := bodyA16_bad C l p B bes n k hkn hb
      exact ⟨_, _, loopC_done (by rw [show firstOf lp16_0 = some 4 from rfl, hst]; exact h) (by simp), ρ, rfl, .inl ⟨rfl, .inl hb, hg1, hg2⟩⟩
    · obtain ⟨ρ, h, hg⟩ := bodyA16_ok C l p B bes n k hkn (by omega) h3
      obtain ⟨x, st', h4, ρ', h5, h6⟩ := ih (k + 1) ⟨ρ, [], [], B⟩ (by omega) (by omega) hg
      exact ⟨x, st', loopC_next (by rw [show firstOf lp16_0 = some 4 from rfl, hst]; exact h) h4, ρ', h5, h6.imp (fun ⟨a1, a2, a3⟩ => ⟨a1, .inr a2, a3⟩) (fun ⟨a1, a2, a3⟩ => ⟨a1, by simp [hb, a2], a3⟩)⟩

/-- The place: so many rounds from k on. -/
def refAt (bes : Int) (l : List Int) : Nat → Nat → Int → Int
  | 0, _, at_ => at_
  | m + 1, k, at_ => refAt bes l m (k + 1) (if greaterS bes k l < greaterS bes at_ l then k else at_)

def stB16 (l : List Int) (p : Perm) (B : Hp) (bes at_ : Int) (k : Nat) : St := ⟨[(0, .vec 1 (l.map (.int .i64)) p), (1, .int .i64 bes), (7, .int .i64 at_), (8, .int .i64 k)], [], [], B⟩

set_option maxRecDepth 10000 in
theorem bodyB16_end (C : Callees) (l : List Int) (p : Perm) (B : Hp) (bes at_ : Int) (k : Nat) (hk : l.length ≤ k) :
    ∃ ρ, go T an16 C lp16_1 .top (stB16 l p B bes at_ k) = some (.exit 2, ⟨ρ, [], [], B⟩) ∧ get ρ 0 = .vec 1 (l.map (.int .i64)) p ∧ get ρ 1 = .int .i64 bes ∧ get ρ 7 = .int .i64 at_ := by
  have hlt : ¬ (k : Int) < l.length := by omega
  simp only [stB16, lp16_1, subC, atC, Tryd.f16, an16, hlt, T3, T22, e_seq, e_region, e_block, e_cond, e_ret, e_skip, e_exit, e_plain, e_guard, e_nil, e_op, e_ifT, e_ifF, e_true, e_false, e_loop, e_l, e_top, e_seqN, e_seqE, e_seqR, e_blockN, e_blockR, e_blockE,
    e_finN, e_finX, e_finR, retV, resV, resL, outCL, outC, outL, outD, wantedV, opV, An.at_, prune, List.map_cons, List.map_nil, envOf, get, put, eval, ofV, nbeq, nble, binV, binV.aggV, unV, intV, eqOp, isConst, natV, optV, loadV, loadC, storeV, setC, St.at_, partV, indexAddrV, fieldAddrV, sliceV, sliceV.rowSl, sliceV.strSl, bounds, cutP,
    builtinV, lenV, maxL, maxV, appendV, St.elems, roomy, rowOf, rowS, isStr, esz, tdOf, convV, buildV, fillV, partsV, okParts, fillL, D.whole, D.demoteC, D.demote, demoteL, D.global, D.leaf, D.cells, TI.agg, TD.rowish, callOpV, CC, keepB, St.borrowL, St.borrow, D.isLsl, adoptR, adoptC, adoptCL, adoptL, adopt, upd,
    List.toArray, Array.toList, List.length_cons, List.length_nil, List.length_map, List.length_append, List.length_replicate, ← List.map_take, ← List.map_drop, List.drop_zero, Nat.zero_le, Nat.le_refl, Nat.sub_zero, List.getElem?_cons_succ, List.getElem?_cons_zero, List.getElem?_nil, List.any_cons, List.any_nil, List.all_cons, List.all_nil, List.append_nil, List.nil_append, List.cons_append, List.set_cons_zero, List.set_cons_succ,
    cond_true, cond_false, decide_true, decide_false, Bool.true_and, Bool.and_true, Bool.false_and, Bool.and_false, Bool.true_or, Bool.or_true, Bool.false_or, Bool.or_false, Bool.not_true, Bool.not_false, Bool.and_self, Bool.or_self, bT, bF, ieq, ine, decide_eq_true_eq, decide_not,
    Nat.reduceEqDiff, Nat.reduceAdd, Nat.reduceSub, Nat.reduceMul, Nat.reduceLeDiff, Nat.reduceLT, Nat.zero_add, Nat.add_zero, Option.getD_some, Option.getD_none, Option.isSome_some, Option.isSome_none, reduceIte, reduceCtorEq, and_self, and_true, true_and, not_true_eq_false, not_false_eq_true, false_imp_iff, forall_const, imp_self,
    Int.reduceNeg, Int.reduceLT, Int.reduceLE, Int.reduceAdd, Int.reduceSub, Int.reduceMul, Int.reduceToNat, Int.reduceEq, ne_eq, eq_self, beq_self_eq_true]
  exact ⟨_, rfl, rfl, rfl, rfl⟩

set_option maxRecDepth 10000 in
theorem bodyB16_ok (C : Callees) (l : List Int) (p : Perm) (B : Hp) (bes at_ : Int) (k : Nat) (hk : k < l.length) (h3 : l.length ≤ 1024) (hgr : ∀ (at_ : Int), C 57 [.vec 1 (l.map (.int .i64)) (dp p), .int .i64 bes, .int .i64 at_] B = some (.int .i64 (greaterS bes at_ l), B)) :
    ∃ ρ, go T an16 C lp16_1 .top (stB16 l p B bes at_ k) = some (.norm, ⟨ρ, [], [], B⟩) ∧
      an16.at_ (some 10) ⟨ρ, [], [], B⟩ = stB16 l p B bes (if greaterS bes k l < greaterS bes at_ l then k else at_) (k + 1) := by
  have hlt : (k : Int) < l.length := by omega
  have w2 := wrapI (x := (k : Int) + 1) (by omega) (by omega)
  have g1 := hgr k
  have g2 := hgr at_
  simp only [stB16, lp16_1, subC, atC, Tryd.f16, an16, hlt, w2, g1, g2, T3, T22, e_seq, e_region, e_block, e_cond, e_ret, e_skip, e_exit, e_plain, e_guard, e_nil, e_op, e_ifT, e_ifF, e_true, e_false, e_loop, e_l, e_top, e_seqN, e_seqE, e_seqR, e_blockN, e_blockR, e_blockE,
    e_finN, e_finX, e_finR, retV, resV, resL, outCL, outC, outL, outD, wantedV, opV, An.at_, prune, List.map_cons, List.map_nil, envOf, get, put, eval, ofV, nbeq, nble, binV, binV.aggV, unV, intV, eqOp, isConst, natV, optV, loadV, loadC, storeV, setC, St.at_, partV, indexAddrV, fieldAddrV, sliceV, sliceV.rowSl, sliceV.strSl, bounds, cutP,
    builtinV, lenV, maxL, maxV, appendV, St.elems, roomy, rowOf, rowS, isStr, esz, tdOf, convV, buildV, fillV, partsV, okParts, fillL, D.whole, D.demoteC, D.demote, demoteL, D.global, D.leaf, D.cells, TI.agg, TD.rowish, callOpV, CC, keepB, St.borrowL, St.borrow, D.isLsl, adoptR, adoptC, adoptCL, adoptL, adopt, upd,
    List.toArray, Array.toList, List.length_cons, List.length_nil, List.length_map, List.length_append, List.length_replicate, ← List.map_take, ← List.map_drop, List.drop_zero, Nat.zero_le, Nat.le_refl, Nat.sub_zero, List.getElem?_cons_succ, List.getElem?_cons_zero, List.getElem?_nil, List.any_cons, List.any_nil, List.all_cons, List.all_nil, List.append_nil, List.nil_append, List.cons_append, List.set_cons_zero, List.set_cons_succ,
    cond_true, cond_false, decide_true, decide_false, Bool.true_and, Bool.and_true, Bool.false_and, Bool.and_false, Bool.true_or, Bool.or_true, Bool.false_or, Bool.or_false, Bool.not_true, Bool.not_false, Bool.and_self, Bool.or_self, bT, bF, ieq, ine, decide_eq_true_eq, decide_not,
    Nat.reduceEqDiff, Nat.reduceAdd, Nat.reduceSub, Nat.reduceMul, Nat.reduceLeDiff, Nat.reduceLT, Nat.zero_add, Nat.add_zero, Option.getD_some, Option.getD_none, Option.isSome_some, Option.isSome_none, reduceIte, reduceCtorEq, and_self, and_true, true_and, not_true_eq_false, not_false_eq_true, false_imp_iff, forall_const, imp_self,
    Int.reduceNeg, Int.reduceLT, Int.reduceLE, Int.reduceAdd, Int.reduceSub, Int.reduceMul, Int.reduceToNat, Int.reduceEq, ne_eq, eq_self, beq_self_eq_true]
  repeat' ((first | rw [e_if] | rw [e_bool]); split <;> rename_i hc <;> (try simp only [bT, bF, Bool.not_eq_true', decide_eq_true_eq, decide_eq_false_iff_not, Bool.not_eq_true, Bool.not_eq_false, Decidable.not_not] at hc) <;> simp only [hc, w2, T3, T22, e_seq, e_region, e_block, e_cond, e_ret, e_skip, e_exit, e_plain, e_guard, e_nil, e_op, e_ifT, e_ifF, e_true, e_false, e_loop, e_l, e_top, e_seqN, e_seqE, e_seqR, e_blockN, e_blockR, e_blockE,
    e_finN, e_finX, e_finR, retV, resV, resL, outCL, outC, outL, outD, wantedV, opV, An.at_, prune, List.map_cons, List.map_nil, envOf, get, put, eval, ofV, nbeq, nble, binV, binV.aggV, unV, intV, eqOp, isConst, natV, optV, loadV, loadC, storeV, setC, St.at_, partV, indexAddrV, fieldAddrV, sliceV, sliceV.rowSl, sliceV.strSl, bounds, cutP,
    builtinV, lenV, maxL, maxV, appendV, St.elems, roomy, rowOf, rowS, isStr, esz, tdOf, convV, buildV, fillV, partsV, okParts, fillL, D.whole, D.demoteC, D.demote, demoteL, D.global, D.leaf, D.cells, TI.agg, TD.rowish, callOpV, CC, keepB, St.borrowL, St.borrow, D.isLsl, adoptR, adoptC, adoptCL, adoptL, adopt, upd,
    List.toArray, Array.toList, List.length_cons, List.length_nil, List.length_map, List.length_append, List.length_replicate, ← List.map_take, ← List.map_drop, List.drop_zero, Nat.zero_le, Nat.le_refl, Nat.sub_zero, List.getElem?_cons_succ, List.getElem?_cons_zero, List.getElem?_nil, List.any_cons, List.any_nil, List.all_cons, List.all_nil, List.append_nil, List.nil_append, List.cons_append, List.set_cons_zero, List.set_cons_succ,
    cond_true, cond_false, decide_true, decide_false, Bool.true_and, Bool.and_true, Bool.false_and, Bool.and_false, Bool.true_or, Bool.or_true, Bool.false_or, Bool.or_false, Bool.not_true, Bool.not_false, Bool.and_self, Bool.or_self, bT, bF, ieq, ine, decide_eq_true_eq, decide_not,
    Nat.reduceEqDiff, Nat.reduceAdd, Nat.reduceSub, Nat.reduceMul, Nat.reduceLeDiff, Nat.reduceLT, Nat.zero_add, Nat.add_zero, Option.getD_some, Option.getD_none, Option.isSome_some, Option.isSome_none, reduceIte, reduceCtorEq, and_self, and_true, true_and, not_true_eq_false, not_false_eq_true, false_imp_iff, forall_const, imp_self,
    Int.reduceNeg, Int.reduceLT, Int.reduceLE, Int.reduceAdd, Int.reduceSub, Int.reduceMul, Int.reduceToNat, Int.reduceEq, ne_eq, eq_self, beq_self_eq_true])
  all_goals refine ⟨_, rfl, ?_⟩
  all_goals simp only [get, *, Int.natCast_add, Int.natCast_one, Int.cast_ofNat_Int, e_seq, e_region, e_block, e_cond, e_ret, e_skip, e_exit, e_plain, e_guard, e_nil, e_op, e_ifT, e_ifF, e_true, e_false, e_loop, e_l, e_top, e_seqN, e_seqE, e_seqR, e_blockN, e_blockR, e_blockE,
    e_finN, e_finX, e_finR, retV, resV, resL, outCL, outC, outL, outD, wantedV, opV, An.at_, prune, List.map_cons, List.map_nil, envOf, get, put, eval, ofV, nbeq, nble, binV, binV.aggV, unV, intV, eqOp, isConst, natV, optV, loadV, loadC, storeV, setC, St.at_, partV, indexAddrV, fieldAddrV, sliceV, sliceV.rowSl, sliceV.strSl, bounds, cutP,
    builtinV, lenV, maxL, maxV, appendV, St.elems, roomy, rowOf, rowS, isStr, esz, tdOf, convV, buildV, fillV, partsV, okParts, fillL, D.whole, D.demoteC, D.demote, demoteL, D.global, D.leaf, D.cells, TI.agg, TD.rowish, callOpV, CC, keepB, St.borrowL, St.borrow, D.isLsl, adoptR, adoptC, adoptCL, adoptL, adopt, upd,
    List.toArray, Array.toList, List.length_cons, List.length_nil, List.length_map, List.length_append, List.length_replicate, ← List.map_take, ← List.map_drop, List.drop_zero, Nat.zero_le, Nat.le_refl, Nat.sub_zero, List.getElem?_cons_succ, List.getElem?_cons_zero, List.getElem?_nil, List.any_cons, List.any_nil, List.all_cons, List.all_nil, List.append_nil, List.nil_append, List.cons_append, List.set_cons_zero, List.set_cons_succ,
    cond_true, cond_false, decide_true, decide_false, Bool.true_and, Bool.and_true, Bool.false_and, Bool.and_false, Bool.true_or, Bool.or_true, Bool.false_or, Bool.or_false, Bool.not_true, Bool.not_false, Bool.and_self, Bool.or_self, bT, bF, ieq, ine, decide_eq_true_eq, decide_not,
    Nat.reduceEqDiff, Nat.reduceAdd, Nat.reduceSub, Nat.reduceMul, Nat.reduceLeDiff, Nat.reduceLT, Nat.zero_add, Nat.add_zero, Option.getD_some, Option.getD_none, Option.isSome_some, Option.isSome_none, reduceIte, reduceCtorEq, and_self, and_true, true_and, not_true_eq_false, not_false_eq_true, false_imp_iff, forall_const, imp_self,
    Int.reduceNeg, Int.reduceLT, Int.reduceLE, Int.reduceAdd, Int.reduceSub, Int.reduceMul, Int.reduceToNat, Int.reduceEq, ne_eq, eq_self, beq_self_eq_true]

theorem loopB16 (C : Callees) (l : List Int) (p : Perm) (B : Hp) (bes : Int) (h3 : l.length ≤ 1024) (hgr : ∀ (at_ : Int), C 57 [.vec 1 (l.map (.int .i64)) (dp p), .int .i64 bes, .int .i64 at_] B = some (.int .i64 (greaterS bes at_ l), B)) :
    ∀ (m k : Nat) (at_ : Int) (st : St), l.length - k = m →
    an16.at_ (some 10) st = stB16 l p B bes at_ k →
    ∃ x st', loopC T an16 C lp16_1 st = some (x, st') ∧ ∃ ρ, st' = ⟨ρ, [], [], B⟩ ∧ x = .exit 2 ∧ get ρ 0 = .vec 1 (l.map (.int .i64)) p ∧ get ρ 1 = .int .i64 bes ∧ get ρ 7 = .int .i64 (refAt bes l m k at_) := by
  intro m
  induction m with
  | zero =>
    intro k at_ st hm hst
    obtain ⟨ρ, h, hg1, hg2, hg3⟩ := bodyB16_end C l p B bes at_ k (by omega)
    exact ⟨_, _, loopC_done (by rw [show firstOf lp16_1 = some 10 from rfl, hst]; exact h) (by simp), ρ, rfl, rfl, hg1, hg2, hg3⟩
  | succ m ih =>
    intro k at_ st hm hst
    obtain ⟨ρ, h, hg⟩ := bodyB16_ok C l p B bes at_ k (by omega) h3 hgr
    obtain ⟨x, st', h4, ρ', h5, h6, h7, h8, h9⟩ := ih (k + 1) _ ⟨ρ, [], [], B⟩ (by omega) hg
    exact ⟨x, st', loopC_next (by rw [show firstOf lp16_1 = some 10 from rfl, hst]; exact h) h4, ρ', h5, h6, h7, h8, h9⟩

open Classical in
noncomputable def refSplitS (l : List Int) (bes : Int) : Int × Int :=
  if l.length < 2 ∨ 1024 < l.length ∨ bes < 0 ∨ 1024 < bes ∨ badS l then (0, 1)
  else if 504 < greaterS bes (refAt bes l (l.length - 2) 2 1) l then (0, 5) else (refAt bes l (l.length - 2) 2 1, 0)

set_option maxRecDepth 10000 in
theorem run16 (C : Callees) (l : List Int) (p : Perm) (bes : Int) (B : Hp)
    (hgr : ∀ (q : Perm) (at_ : Int), l.length ≤ 1024 → ¬ badS l → 0 ≤ bes ∧ bes ≤ 1024 → C 57 [.vec 1 (l.map (.int .i64)) q, .int .i64 bes, .int .i64 at_] B = some (.int .i64 (greaterS bes at_ l), B)) :
    runV T C fi16 [.vec 1 (l.map (.int .i64)) p, .int .i64 bes] B = some (.tuple [.int .i64 (refSplitS l bes).1, .int .i64 (refSplitS l bes).2], B) := by
  rw [e_run _ _ _ rfl]
  simp only [fi16, Tryd.f16, an16, T3, T22, e_seq, e_region, e_block, e_cond, e_ret, e_skip, e_exit, e_plain, e_guard, e_nil, e_op, e_ifT, e_ifF, e_true, e_false, e_loop, e_l, e_top, e_seqN, e_seqE, e_seqR, e_blockN, e_blockR, e_blockE,
    e_finN, e_finX, e_finR, retV, resV, resL, outCL, outC, outL, outD, wantedV, opV, An.at_, prune, List.map_cons, List.map_nil, envOf, get, put, eval, ofV, nbeq, nble, binV, binV.aggV, unV, intV, eqOp, isConst, natV, optV, loadV, loadC, storeV, setC, St.at_, partV, indexAddrV, fieldAddrV, sliceV, sliceV.rowSl, sliceV.strSl, bounds, cutP,
    builtinV, lenV, maxL, maxV, appendV, St.elems, roomy, rowOf, rowS, isStr, esz, tdOf, convV, buildV, fillV, partsV, okParts, fillL, D.whole, D.demoteC, D.demote, demoteL, D.global, D.leaf, D.cells, TI.agg, TD.rowish, callOpV, CC, keepB, St.borrowL, St.borrow, D.isLsl, adoptR, adoptC, adoptCL, adoptL, adopt, upd,
    List.toArray, Array.toList, List.length_cons, List.length_nil, List.length_map, List.length_append, List.length_replicate, ← List.map_take, ← List.map_drop, List.drop_zero, Nat.zero_le, Nat.le_refl, Nat.sub_zero, List.getElem?_cons_succ, List.getElem?_cons_zero, List.getElem?_nil, List.any_cons, List.any_nil, List.all_cons, List.all_nil, List.append_nil, List.nil_append, List.cons_append, List.set_cons_zero, List.set_cons_succ,
    cond_true, cond_false, decide_true, decide_false, Bool.true_and, Bool.and_true, Bool.false_and, Bool.and_false, Bool.true_or, Bool.or_true, Bool.false_or, Bool.or_false, Bool.not_true, Bool.not_false, Bool.and_self, Bool.or_self, bT, bF, ieq, ine, decide_eq_true_eq, decide_not,
    Nat.reduceEqDiff, Nat.reduceAdd, Nat.reduceSub, Nat.reduceMul, Nat.reduceLeDiff, Nat.reduceLT, Nat.zero_add, Nat.add_zero, Option.getD_some, Option.getD_none, Option.isSome_some, Option.isSome_none, reduceIte, reduceCtorEq, and_self, and_true, true_and, not_true_eq_false, not_false_eq_true, false_imp_iff, forall_const, imp_self,
    Int.reduceNeg, Int.reduceLT, Int.reduceLE, Int.reduceAdd, Int.reduceSub, Int.reduceMul, Int.reduceToNat, Int.reduceEq, ne_eq, eq_self, beq_self_eq_true]
  by_cases c1 : l.length < 2
  · have c1' : (l.length : Int) < 2 := by omega
    simp only [c1', T3, T22, e_seq, e_region, e_block, e_cond, e_ret, e_skip, e_exit, e_plain, e_guard, e_nil, e_op, e_ifT, e_ifF, e_true, e_false, e_loop, e_l, e_top, e_seqN, e_seqE, e_seqR, e_blockN, e_blockR, e_blockE,
    e_finN, e_finX, e_finR, retV, resV, resL, outCL, outC, outL, outD, wantedV, opV, An.at_, prune, List.map_cons, List.map_nil, envOf, get, put, eval, ofV, nbeq, nble, binV, binV.aggV, unV, intV, eqOp, isConst, natV, optV, loadV, loadC, storeV, setC, St.at_, partV, indexAddrV, fieldAddrV, sliceV, sliceV.rowSl, sliceV.strSl, bounds, cutP,
    builtinV, lenV, maxL, maxV, appendV, St.elems, roomy, rowOf, rowS, isStr, esz, tdOf, convV, buildV, fillV, partsV, okParts, fillL, D.whole, D.demoteC, D.demote, demoteL, D.global, D.leaf, D.cells, TI.agg, TD.rowish, callOpV, CC, keepB, St.borrowL, St.borrow, D.isLsl, adoptR, adoptC, adoptCL, adoptL, adopt, upd,
    List.toArray, Array.toList, List.length_cons, List.length_nil, List.length_map, List.length_append, List.length_replicate, ← List.map_take, ← List.map_drop, List.drop_zero, Nat.zero_le, Nat.le_refl, Nat.sub_zero, List.getElem?_cons_succ, List.getElem?_cons_zero, List.getElem?_nil, List.any_cons, List.any_nil, List.all_cons, List.all_nil, List.append_nil, List.nil_append, List.cons_append, List.set_cons_zero, List.set_cons_succ,
    cond_true, cond_false, decide_true, decide_false, Bool.true_and, Bool.and_true, Bool.false_and, Bool.and_false, Bool.true_or, Bool.or_true, Bool.false_or, Bool.or_false, Bool.not_true, Bool.not_false, Bool.and_self, Bool.or_self, bT, bF, ieq, ine, decide_eq_true_eq, decide_not,
    Nat.reduceEqDiff, Nat.reduceAdd, Nat.reduceSub, Nat.reduceMul, Nat.reduceLeDiff, Nat.reduceLT, Nat.zero_add, Nat.add_zero, Option.getD_some, Option.getD_none, Option.isSome_some, Option.isSome_none, reduceIte, reduceCtorEq, and_self, and_true, true_and, not_true_eq_false, not_false_eq_true, false_imp_iff, forall_const, imp_self,
    Int.reduceNeg, Int.reduceLT, Int.reduceLE, Int.reduceAdd, Int.reduceSub, Int.reduceMul, Int.reduceToNat, Int.reduceEq, ne_eq, eq_self, beq_self_eq_true]
    simp [refSplitS, c1]
  have c1' : ¬ (l.length : Int) < 2 := by omega
  by_cases c2 : 1024 < l.length
  · have c2' : (l.length : Int) > 1024 := by omega
    simp only [c1', c2', T3, T22, e_seq, e_region, e_block, e_cond, e_ret, e_skip, e_exit, e_plain, e_guard, e_nil, e_op, e_ifT, e_ifF, e_true, e_false, e_loop, e_l, e_top, e_seqN, e_seqE, e_seqR, e_blockN, e_blockR, e_blockE,
    e_finN, e_finX, e_finR, retV, resV, resL, outCL, outC, outL, outD, wantedV, opV, An.at_, prune, List.map_cons, List.map_nil, envOf, get, put, eval, ofV, nbeq, nble, binV, binV.aggV, unV, intV, eqOp, isConst, natV, optV, loadV, loadC, storeV, setC, St.at_, partV, indexAddrV, fieldAddrV, sliceV, sliceV.rowSl, sliceV.strSl, bounds, cutP,
    builtinV, lenV, maxL, maxV, appendV, St.elems, roomy, rowOf, rowS, isStr, esz, tdOf, convV, buildV, fillV, partsV, okParts, fillL, D.whole, D.demoteC, D.demote, demoteL, D.global, D.leaf, D.cells, TI.agg, TD.rowish, callOpV, CC, keepB, St.borrowL, St.borrow, D.isLsl, adoptR, adoptC, adoptCL, adoptL, adopt, upd,
    List.toArray, Array.toList, List.length_cons, List.length_nil, List.length_map, List.length_append, List.length_replicate, ← List.map_take, ← List.map_drop, List.drop_zero, Nat.zero_le, Nat.le_refl, Nat.sub_zero, List.getElem?_cons_succ, List.getElem?_cons_zero, List.getElem?_nil, List.any_cons, List.any_nil, List.all_cons, List.all_nil, List.append_nil, List.nil_append, List.cons_append, List.set_cons_zero, List.set_cons_succ,
    cond_true, cond_false, decide_true, decide_false, Bool.true_and, Bool.and_true, Bool.false_and, Bool.and_false, Bool.true_or, Bool.or_true, Bool.false_or, Bool.or_false, Bool.not_true, Bool.not_false, Bool.and_self, Bool.or_self, bT, bF, ieq, ine, decide_eq_true_eq, decide_not,
    Nat.reduceEqDiff, Nat.reduceAdd, Nat.reduceSub, Nat.reduceMul, Nat.reduceLeDiff, Nat.reduceLT, Nat.zero_add, Nat.add_zero, Option.getD_some, Option.getD_none, Option.isSome_some, Option.isSome_none, reduceIte, reduceCtorEq, and_self, and_true, true_and, not_true_eq_false, not_false_eq_true, false_imp_iff, forall_const, imp_self,
    Int.reduceNeg, Int.reduceLT, Int.reduceLE, Int.reduceAdd, Int.reduceSub, Int.reduceMul, Int.reduceToNat, Int.reduceEq, ne_eq, eq_self, beq_self_eq_true]
    simp [refSplitS, c2]
  have c2' : ¬ (l.length : Int) > 1024 := by omega
  simp only [c1', c2', T3, T22, e_seq, e_region, e_block, e_cond, e_ret, e_skip, e_exit, e_plain, e_guard, e_nil, e_op, e_ifT, e_ifF, e_true, e_false, e_loop, e_l, e_top, e_seqN, e_seqE, e_seqR, e_blockN, e_blockR, e_blockE,
    e_finN, e_finX, e_finR, retV, resV, resL, outCL, outC, outL, outD, wantedV, opV, An.at_, prune, List.map_cons, List.map_nil, envOf, get, put, eval, ofV, nbeq, nble, binV, binV.aggV, unV, intV, eqOp, isConst, natV, optV, loadV, loadC, storeV, setC, St.at_, partV, indexAddrV, fieldAddrV, sliceV, sliceV.rowSl, sliceV.strSl, bounds, cutP,
    builtinV, lenV, maxL, maxV, appendV, St.elems, roomy, rowOf, rowS, isStr, esz, tdOf, convV, buildV, fillV, partsV, okParts, fillL, D.whole, D.demoteC, D.demote, demoteL, D.global, D.leaf, D.cells, TI.agg, TD.rowish, callOpV, CC, keepB, St.borrowL, St.borrow, D.isLsl, adoptR, adoptC, adoptCL, adoptL, adopt, upd,
    List.toArray, Array.toList, List.length_cons, List.length_nil, List.length_map, List.length_append, List.length_replicate, ← List.map_take, ← List.map_drop, List.drop_zero, Nat.zero_le, Nat.le_refl, Nat.sub_zero, List.getElem?_cons_succ, List.getElem?_cons_zero, List.getElem?_nil, List.any_cons, List.any_nil, List.all_cons, List.all_nil, List.append_nil, List.nil_append, List.cons_append, List.set_cons_zero, List.set_cons_succ,
    cond_true, cond_false, decide_true, decide_false, Bool.true_and, Bool.and_true, Bool.false_and, Bool.and_false, Bool.true_or, Bool.or_true, Bool.false_or, Bool.or_false, Bool.not_true, Bool.not_false, Bool.and_self, Bool.or_self, bT, bF, ieq, ine, decide_eq_true_eq, decide_not,
    Nat.reduceEqDiff, Nat.reduceAdd, Nat.reduceSub, Nat.reduceMul, Nat.reduceLeDiff, Nat.reduceLT, Nat.zero_add, Nat.add_zero, Option.getD_some, Option.getD_none, Option.isSome_some, Option.isSome_none, reduceIte, reduceCtorEq, and_self, and_true, true_and, not_true_eq_false, not_false_eq_true, false_imp_iff, forall_const, imp_self,
    Int.reduceNeg, Int.reduceLT, Int.reduceLE, Int.reduceAdd, Int.reduceSub, Int.reduceMul, Int.reduceToNat, Int.reduceEq, ne_eq, eq_self, beq_self_eq_true]
  by_cases c3 : bes < 0
  · simp only [c3, T3, T22, e_seq, e_region, e_block, e_cond, e_ret, e_skip, e_exit, e_plain, e_guard, e_nil, e_op, e_ifT, e_ifF, e_true, e_false, e_loop, e_l, e_top, e_seqN, e_seqE, e_seqR, e_blockN, e_blockR, e_blockE,
    e_finN, e_finX, e_finR, retV, resV, resL, outCL, outC, outL, outD, wantedV, opV, An.at_, prune, List.map_cons, List.map_nil, envOf, get, put, eval, ofV, nbeq, nble, binV, binV.aggV, unV, intV, eqOp, isConst, natV, optV, loadV, loadC, storeV, setC, St.at_, partV, indexAddrV, fieldAddrV, sliceV, sliceV.rowSl, sliceV.strSl, bounds, cutP,
    builtinV, lenV, maxL, maxV, appendV, St.elems, roomy, rowOf, rowS, isStr, esz, tdOf, convV, buildV, fillV, partsV, okParts, fillL, D.whole, D.demoteC, D.demote, demoteL, D.global, D.leaf, D.cells, TI.agg, TD.rowish, callOpV, CC, keepB, St.borrowL, St.borrow, D.isLsl, adoptR, adoptC, adoptCL, adoptL, adopt, upd,
    List.toArray, Array.toList, List.length_cons, List.length_nil, List.length_map, List.length_append, List.length_replicate, ← List.map_take, ← List.map_drop, List.drop_zero, Nat.zero_le, Nat.le_refl, Nat.sub_zero, List.getElem?_cons_succ, List.getElem?_cons_zero, List.getElem?_nil, List.any_cons, List.any_nil, List.all_cons, List.all_nil, List.append_nil, List.nil_append, List.cons_append, List.set_cons_zero, List.set_cons_succ,
    cond_true, cond_false, decide_true, decide_false, Bool.true_and, Bool.and_true, Bool.false_and, Bool.and_false, Bool.true_or, Bool.or_true, Bool.false_or, Bool.or_false, Bool.not_true, Bool.not_false, Bool.and_self, Bool.or_self, bT, bF, ieq, ine, decide_eq_true_eq, decide_not,
    Nat.reduceEqDiff, Nat.reduceAdd, Nat.reduceSub, Nat.reduceMul, Nat.reduceLeDiff, Nat.reduceLT, Nat.zero_add, Nat.add_zero, Option.getD_some, Option.getD_none, Option.isSome_some, Option.isSome_none, reduceIte, reduceCtorEq, and_self, and_true, true_and, not_true_eq_false, not_false_eq_true, false_imp_iff, forall_const, imp_self,
    Int.reduceNeg, Int.reduceLT, Int.reduceLE, Int.reduceAdd, Int.reduceSub, Int.reduceMul, Int.reduceToNat, Int.reduceEq, ne_eq, eq_self, beq_self_eq_true]
    simp [refSplitS, c3]
  simp only [c3, T3, T22, e_seq, e_region, e_block, e_cond, e_ret, e_skip, e_exit, e_plain, e_guard, e_nil, e_op, e_ifT, e_ifF, e_true, e_false, e_loop, e_l, e_top, e_seqN, e_seqE, e_seqR, e_blockN, e_blockR, e_blockE,
    e_finN, e_finX, e_finR, retV, resV, resL, outCL, outC, outL, outD, wantedV, opV, An.at_, prune, List.map_cons, List.map_nil, envOf, get, put, eval, ofV, nbeq, nble, binV, binV.aggV, unV, intV, eqOp, isConst, natV, optV, loadV, loadC, storeV, setC, St.at_, partV, indexAddrV, fieldAddrV, sliceV, sliceV.rowSl, sliceV.strSl, bounds, cutP,
    builtinV, lenV, maxL, maxV, appendV, St.elems, roomy, rowOf, rowS, isStr, esz, tdOf, convV, buildV, fillV, partsV, okParts, fillL, D.whole, D.demoteC, D.demote, demoteL, D.global, D.leaf, D.cells, TI.agg, TD.rowish, callOpV, CC, keepB, St.borrowL, St.borrow, D.isLsl, adoptR, adoptC, adoptCL, adoptL, adopt, upd,
    List.toArray, Array.toList, List.length_cons, List.length_nil, List.length_map, List.length_append, List.length_replicate, ← List.map_take, ← List.map_drop, List.drop_zero, Nat.zero_le, Nat.le_refl, Nat.sub_zero, List.getElem?_cons_succ, List.getElem?_cons_zero, List.getElem?_nil, List.any_cons, List.any_nil, List.all_cons, List.all_nil, List.append_nil, List.nil_append, List.cons_append, List.set_cons_zero, List.set_cons_succ,
    cond_true, cond_false, decide_true, decide_false, Bool.true_and, Bool.and_true, Bool.false_and, Bool.and_false, Bool.true_or, Bool.or_true, Bool.false_or, Bool.or_false, Bool.not_true, Bool.not_false, Bool.and_self, Bool.or_self, bT, bF, ieq, ine, decide_eq_true_eq, decide_not,
    Nat.reduceEqDiff, Nat.reduceAdd, Nat.reduceSub, Nat.reduceMul, Nat.reduceLeDiff, Nat.reduceLT, Nat.zero_add, Nat.add_zero, Option.getD_some, Option.getD_none, Option.isSome_some, Option.isSome_none, reduceIte, reduceCtorEq, and_self, and_true, true_and, not_true_eq_false, not_false_eq_true, false_imp_iff, forall_const, imp_self,
    Int.reduceNeg, Int.reduceLT, Int.reduceLE, Int.reduceAdd, Int.reduceSub, Int.reduceMul, Int.reduceToNat, Int.reduceEq, ne_eq, eq_self, beq_self_eq_true]
  by_cases c4 : 1024 < bes
  · have c4' : bes > 1024 := c4
    simp only [c4', T3, T22, e_seq, e_region, e_block, e_cond, e_ret, e_skip, e_exit, e_plain, e_guard, e_nil, e_op, e_ifT, e_ifF, e_true, e_false, e_loop, e_l, e_top, e_seqN, e_seqE, e_seqR, e_blockN, e_blockR, e_blockE,
    e_finN, e_finX, e_finR, retV, resV, resL, outCL, outC, outL, outD, wantedV, opV, An.at_, prune, List.map_cons, List.map_nil, envOf, get, put, eval, ofV, nbeq, nble, binV, binV.aggV, unV, intV, eqOp, isConst, natV, optV, loadV, loadC, storeV, setC, St.at_, partV, indexAddrV, fieldAddrV, sliceV, sliceV.rowSl, sliceV.strSl, bounds, cutP,
    builtinV, lenV, maxL, maxV, appendV, St.elems, roomy, rowOf, rowS, isStr, esz, tdOf, convV, buildV, fillV, partsV, okParts, fillL, D.whole, D.demoteC, D.demote, demoteL, D.global, D.leaf, D.cells, TI.agg, TD.rowish, callOpV, CC, keepB, St.borrowL, St.borrow, D.isLsl, adoptR, adoptC, adoptCL, adoptL, adopt, upd,
    List.toArray, Array.toList, List.length_cons, List.length_nil, List.length_map, List.length_append, List.length_replicate, ← List.map_take, ← List.map_drop, List.drop_zero, Nat.zero_le, Nat.le_refl, Nat.sub_zero, List.getElem?_cons_succ, List.getElem?_cons_zero, List.getElem?_nil, List.any_cons, List.any_nil, List.all_cons, List.all_nil, List.append_nil, List.nil_append, List.cons_append, List.set_cons_zero, List.set_cons_succ,
    cond_true, cond_false, decide_true, decide_false, Bool.true_and, Bool.and_true, Bool.false_and, Bool.and_false, Bool.true_or, Bool.or_true, Bool.false_or, Bool.or_false, Bool.not_true, Bool.not_false, Bool.and_self, Bool.or_self, bT, bF, ieq, ine, decide_eq_true_eq, decide_not,
    Nat.reduceEqDiff, Nat.reduceAdd, Nat.reduceSub, Nat.reduceMul, Nat.reduceLeDiff, Nat.reduceLT, Nat.zero_add, Nat.add_zero, Option.getD_some, Option.getD_none, Option.isSome_some, Option.isSome_none, reduceIte, reduceCtorEq, and_self, and_true, true_and, not_true_eq_false, not_false_eq_true, false_imp_iff, forall_const, imp_self,
    Int.reduceNeg, Int.reduceLT, Int.reduceLE, Int.reduceAdd, Int.reduceSub, Int.reduceMul, Int.reduceToNat, Int.reduceEq, ne_eq, eq_self, beq_self_eq_true]
    simp [refSplitS, c4]
  have c4' : ¬ bes > 1024 := c4
  simp only [c4', T3, T22, e_seq, e_region, e_block, e_cond, e_ret, e_skip, e_exit, e_plain, e_guard, e_nil, e_op, e_ifT, e_ifF, e_true, e_false, e_loop, e_l, e_top, e_seqN, e_seqE, e_seqR, e_blockN, e_blockR, e_blockE,
    e_finN, e_finX, e_finR, retV, resV, resL, outCL, outC, outL, outD, wantedV, opV, An.at_, prune, List.map_cons, List.map_nil, envOf, get, put, eval, ofV, nbeq, nble, binV, binV.aggV, unV, intV, eqOp, isConst, natV, optV, loadV, loadC, storeV, setC, St.at_, partV, indexAddrV, fieldAddrV, sliceV, sliceV.rowSl, sliceV.strSl, bounds, cutP,
    builtinV, lenV, maxL, maxV, appendV, St.elems, roomy, rowOf, rowS, isStr, esz, tdOf, convV, buildV, fillV, partsV, okParts, fillL, D.whole, D.demoteC, D.demote, demoteL, D.global, D.leaf, D.cells, TI.agg, TD.rowish, callOpV, CC, keepB, St.borrowL, St.borrow, D.isLsl, adoptR, adoptC, adoptCL, adoptL, adopt, upd,
    List.toArray, Array.toList, List.length_cons, List.length_nil, List.length_map, List.length_append, List.length_replicate, ← List.map_take, ← List.map_drop, List.drop_zero, Nat.zero_le, Nat.le_refl, Nat.sub_zero, List.getElem?_cons_succ, List.getElem?_cons_zero, List.getElem?_nil, List.any_cons, List.any_nil, List.all_cons, List.all_nil, List.append_nil, List.nil_append, List.cons_append, List.set_cons_zero, List.set_cons_succ,
    cond_true, cond_false, decide_true, decide_false, Bool.true_and, Bool.and_true, Bool.false_and, Bool.and_false, Bool.true_or, Bool.or_true, Bool.false_or, Bool.or_false, Bool.not_true, Bool.not_false, Bool.and_self, Bool.or_self, bT, bF, ieq, ine, decide_eq_true_eq, decide_not,
    Nat.reduceEqDiff, Nat.reduceAdd, Nat.reduceSub, Nat.reduceMul, Nat.reduceLeDiff, Nat.reduceLT, Nat.zero_add, Nat.add_zero, Option.getD_some, Option.getD_none, Option.isSome_some, Option.isSome_none, reduceIte, reduceCtorEq, and_self, and_true, true_and, not_true_eq_false, not_false_eq_true, false_imp_iff, forall_const, imp_self,
    Int.reduceNeg, Int.reduceLT, Int.reduceLE, Int.reduceAdd, Int.reduceSub, Int.reduceMul, Int.reduceToNat, Int.reduceEq, ne_eq, eq_self, beq_self_eq_true]
  refine' in_loop (c' := lp16_0) (fin T _) ?h rfl ?q
  case h => exact loopA16 C l p B bes (by omega) _ 0 _ rfl (by omega) rfl
  rintro x st' ⟨ρ, rfl, ⟨rfl, c5, hg1, hg2⟩ | ⟨rfl, c5, hg1, hg2⟩⟩
  · simp only [List.drop_zero] at c5
    simp only [hg1, hg2, T3, T22, e_seq, e_region, e_block, e_cond, e_ret, e_skip, e_exit, e_plain, e_guard, e_nil, e_op, e_ifT, e_ifF, e_true, e_false, e_loop, e_l, e_top, e_seqN, e_seqE, e_seqR, e_blockN, e_blockR, e_blockE,
    e_finN, e_finX, e_finR, retV, resV, resL, outCL, outC, outL, outD, wantedV, opV, An.at_, prune, List.map_cons, List.map_nil, envOf, get, put, eval, ofV, nbeq, nble, binV, binV.aggV, unV, intV, eqOp, isConst, natV, optV, loadV, loadC, storeV, setC, St.at_, partV, indexAddrV, fieldAddrV, sliceV, sliceV.rowSl, sliceV.strSl, bounds, cutP,
    builtinV, lenV, maxL, maxV, appendV, St.elems, roomy, rowOf, rowS, isStr, esz, tdOf, convV, buildV, fillV, partsV, okParts, fillL, D.whole, D.demoteC, D.demote, demoteL, D.global, D.leaf, D.cells, TI.agg, TD.rowish, callOpV, CC, keepB, St.borrowL, St.borrow, D.isLsl, adoptR, adoptC, adoptCL, adoptL, adopt, upd,
    List.toArray, Array.toList, List.length_cons, List.length_nil, List.length_map, List.length_append, List.length_replicate, ← List.map_take, ← List.map_drop, List.drop_zero, Nat.zero_le, Nat.le_refl, Nat.sub_zero, List.getElem?_cons_succ, List.getElem?_cons_zero, List.getElem?_nil, List.any_cons, List.any_nil, List.all_cons, List.all_nil, List.append_nil, List.nil_append, List.cons_append, List.set_cons_zero, List.set_cons_succ,
    cond_true, cond_false, decide_true, decide_false, Bool.true_and, Bool.and_true, Bool.false_and, Bool.and_false, Bool.true_or, Bool.or_true, Bool.false_or, Bool.or_false, Bool.not_true, Bool.not_false, Bool.and_self, Bool.or_self, bT, bF, ieq, ine, decide_eq_true_eq, decide_not,
    Nat.reduceEqDiff, Nat.reduceAdd, Nat.reduceSub, Nat.reduceMul, Nat.reduceLeDiff, Nat.reduceLT, Nat.zero_add, Nat.add_zero, Option.getD_some, Option.getD_none, Option.isSome_some, Option.isSome_none, reduceIte, reduceCtorEq, and_self, and_true, true_and, not_true_eq_false, not_false_eq_true, false_imp_iff, forall_const, imp_self,
    Int.reduceNeg, Int.reduceLT, Int.reduceLE, Int.reduceAdd, Int.reduceSub, Int.reduceMul, Int.reduceToNat, Int.reduceEq, ne_eq, eq_self, beq_self_eq_true]
    simp [refSplitS, c5]
  simp only [List.drop_zero] at c5
  simp only [hg1, hg2, T3, T22, e_seq, e_region, e_block, e_cond, e_ret, e_skip, e_exit, e_plain, e_guard, e_nil, e_op, e_ifT, e_ifF, e_true, e_false, e_loop, e_l, e_top, e_seqN, e_seqE, e_seqR, e_blockN, e_blockR, e_blockE,
    e_finN, e_finX, e_finR, retV, resV, resL, outCL, outC, outL, outD, wantedV, opV, An.at_, prune, List.map_cons, List.map_nil, envOf, get, put, eval, ofV, nbeq, nble, binV, binV.aggV, unV, intV, eqOp, isConst, natV, optV, loadV, loadC, storeV, setC, St.at_, partV, indexAddrV, fieldAddrV, sliceV, sliceV.rowSl, sliceV.strSl, bounds, cutP,
    builtinV, lenV, maxL, maxV, appendV, St.elems, roomy, rowOf, rowS, isStr, esz, tdOf, convV, buildV, fillV, partsV, okParts, fillL, D.whole, D.demoteC, D.demote, demoteL, D.global, D.leaf, D.cells, TI.agg, TD.rowish, callOpV, CC, keepB, St.borrowL, St.borrow, D.isLsl, adoptR, adoptC, adoptCL, adoptL, adopt, upd,
    List.toArray, Array.toList, List.length_cons, List.length_nil, List.length_map, List.length_append, List.length_replicate, ← List.map_take, ← List.map_drop, List.drop_zero, Nat.zero_le, Nat.le_refl, Nat.sub_zero, List.getElem?_cons_succ, List.getElem?_cons_zero, List.getElem?_nil, List.any_cons, List.any_nil, List.all_cons, List.all_nil, List.append_nil, List.nil_append, List.cons_append, List.set_cons_zero, List.set_cons_succ,
    cond_true, cond_false, decide_true, decide_false, Bool.true_and, Bool.and_true, Bool.false_and, Bool.and_false, Bool.true_or, Bool.or_true, Bool.false_or, Bool.or_false, Bool.not_true, Bool.not_false, Bool.and_self, Bool.or_self, bT, bF, ieq, ine, decide_eq_true_eq, decide_not,
    Nat.reduceEqDiff, Nat.reduceAdd, Nat.reduceSub, Nat.reduceMul, Nat.reduceLeDiff, Nat.reduceLT, Nat.zero_add, Nat.add_zero, Option.getD_some, Option.getD_none, Option.isSome_some, Option.isSome_none, reduceIte, reduceCtorEq, and_self, and_true, true_and, not_true_eq_false, not_false_eq_true, false_imp_iff, forall_const, imp_self,
    Int.reduceNeg, Int.reduceLT, Int.reduceLE, Int.reduceAdd, Int.reduceSub, Int.reduceMul, Int.reduceToNat, Int.reduceEq, ne_eq, eq_self, beq_self_eq_true]
  refine' in_loop (c' := lp16_1) (fin T _) ?h2 rfl ?q2
  case h2 => exact loopB16 C l p B bes (by omega) (fun at_ => hgr _ at_ (by omega) c5 (by omega)) _ 2 1 _ rfl (by simp only [An.at_, prune, List.map_cons, List.map_nil, get, put, nbeq, hg1, hg2, stB16, an16, e_seq, e_region, e_block, e_cond, e_ret, e_skip, e_exit, e_plain, e_guard, e_nil, e_op, e_ifT, e_ifF, e_true, e_false, e_loop, e_l, e_top, e_seqN, e_seqE, e_seqR, e_blockN, e_blockR, e_blockE,
    e_finN, e_finX, e_finR, retV, resV, resL, outCL, outC, outL, outD, wantedV, opV, An.at_, prune, List.map_cons, List.map_nil, envOf, get, put, eval, ofV, nbeq, nble, binV, binV.aggV, unV, intV, eqOp, isConst, natV, optV, loadV, loadC, storeV, setC, St.at_, partV, indexAddrV, fieldAddrV, sliceV, sliceV.rowSl, sliceV.strSl, bounds, cutP,
    builtinV, lenV, maxL, maxV, appendV, St.elems, roomy, rowOf, rowS, isStr, esz, tdOf, convV, buildV, fillV, partsV, okParts, fillL, D.whole, D.demoteC, D.demote, demoteL, D.global, D.leaf, D.cells, TI.agg, TD.rowish, callOpV, CC, keepB, St.borrowL, St.borrow, D.isLsl, adoptR, adoptC, adoptCL, adoptL, adopt, upd,
    List.toArray, Array.toList, List.length_cons, List.length_nil, List.length_map, List.length_append, List.length_replicate, ← List.map_take, ← List.map_drop, List.drop_zero, Nat.zero_le, Nat.le_refl, Nat.sub_zero, List.getElem?_cons_succ, List.getElem?_cons_zero, List.getElem?_nil, List.any_cons, List.any_nil, List.all_cons, List.all_nil, List.append_nil, List.nil_append, List.cons_append, List.set_cons_zero, List.set_cons_succ,
    cond_true, cond_false, decide_true, decide_false, Bool.true_and, Bool.and_true, Bool.false_and, Bool.and_false, Bool.true_or, Bool.or_true, Bool.false_or, Bool.or_false, Bool.not_true, Bool.not_false, Bool.and_self, Bool.or_self, bT, bF, ieq, ine, decide_eq_true_eq, decide_not,
    Nat.reduceEqDiff, Nat.reduceAdd, Nat.reduceSub, Nat.reduceMul, Nat.reduceLeDiff, Nat.reduceLT, Nat.zero_add, Nat.add_zero, Option.getD_some, Option.getD_none, Option.isSome_some, Option.isSome_none, reduceIte, reduceCtorEq, and_self, and_true, true_and, not_true_eq_false, not_false_eq_true, false_imp_iff, forall_const, imp_self,
    Int.reduceNeg, Int.reduceLT, Int.reduceLE, Int.reduceAdd, Int.reduceSub, Int.reduceMul, Int.reduceToNat, Int.reduceEq, ne_eq, eq_self, beq_self_eq_true]; rfl)
  rintro x st' ⟨ρ', rfl, rfl, hk1, hk2, hk3⟩
  have g := hgr (dp p) (refAt bes l (l.length - 2) 2 1) (by omega) c5 (by omega)
  simp only [hk1, hk2, hk3, g, T3, T22, e_seq, e_region, e_block, e_cond, e_ret, e_skip, e_exit, e_plain, e_guard, e_nil, e_op, e_ifT, e_ifF, e_true, e_false, e_loop, e_l, e_top, e_seqN, e_seqE, e_seqR, e_blockN, e_blockR, e_blockE,
    e_finN, e_finX, e_finR, retV, resV, resL, outCL, outC, outL, outD, wantedV, opV, An.at_, prune, List.map_cons, List.map_nil, envOf, get, put, eval, ofV, nbeq, nble, binV, binV.aggV, unV, intV, eqOp, isConst, natV, optV, loadV, loadC, storeV, setC, St.at_, partV, indexAddrV, fieldAddrV, sliceV, sliceV.rowSl, sliceV.strSl, bounds, cutP,
    builtinV, lenV, maxL, maxV, appendV, St.elems, roomy, rowOf, rowS, isStr, esz, tdOf, convV, buildV, fillV, partsV, okParts, fillL, D.whole, D.demoteC, D.demote, demoteL, D.global, D.leaf, D.cells, TI.agg, TD.rowish, callOpV, CC, keepB, St.borrowL, St.borrow, D.isLsl, adoptR, adoptC, adoptCL, adoptL, adopt, upd,
    List.toArray, Array.toList, List.length_cons, List.length_nil, List.length_map, List.length_append, List.length_replicate, ← List.map_take, ← List.map_drop, List.drop_zero, Nat.zero_le, Nat.le_refl, Nat.sub_zero, List.getElem?_cons_succ, List.getElem?_cons_zero, List.getElem?_nil, List.any_cons, List.any_nil, List.all_cons, List.all_nil, List.append_nil, List.nil_append, List.cons_append, List.set_cons_zero, List.set_cons_succ,
    cond_true, cond_false, decide_true, decide_false, Bool.true_and, Bool.and_true, Bool.false_and, Bool.and_false, Bool.true_or, Bool.or_true, Bool.false_or, Bool.or_false, Bool.not_true, Bool.not_false, Bool.and_self, Bool.or_self, bT, bF, ieq, ine, decide_eq_true_eq, decide_not,
    Nat.reduceEqDiff, Nat.reduceAdd, Nat.reduceSub, Nat.reduceMul, Nat.reduceLeDiff, Nat.reduceLT, Nat.zero_add, Nat.add_zero, Option.getD_some, Option.getD_none, Option.isSome_some, Option.isSome_none, reduceIte, reduceCtorEq, and_self, and_true, true_and, not_true_eq_false, not_false_eq_true, false_imp_iff, forall_const, imp_self,
    Int.reduceNeg, Int.reduceLT, Int.reduceLE, Int.reduceAdd, Int.reduceSub, Int.reduceMul, Int.reduceToNat, Int.reduceEq, ne_eq, eq_self, beq_self_eq_true]
  by_cases c6 : greaterS bes (refAt bes l (l.length - 2) 2 1) l > 504
  · have c6' : 504 < greaterS bes (refAt bes l (l.length - 2) 2 1) l := c6
    simp only [c6, hk3, T3, T22, e_seq, e_region, e_block, e_cond, e_ret, e_skip, e_exit, e_plain, e_guard, e_nil, e_op, e_ifT, e_ifF, e_true, e_false, e_loop, e_l, e_top, e_seqN, e_seqE, e_seqR, e_blockN, e_blockR, e_blockE,
    e_finN, e_finX, e_finR, retV, resV, resL, outCL, outC, outL, outD, wantedV, opV, An.at_, prune, List.map_cons, List.map_nil, envOf, get, put, eval, ofV, nbeq, nble, binV, binV.aggV, unV, intV, eqOp, isConst, natV, optV, loadV, loadC, storeV, setC, St.at_, partV, indexAddrV, fieldAddrV, sliceV, sliceV.rowSl, sliceV.strSl, bounds, cutP,
    builtinV, lenV, maxL, maxV, appendV, St.elems, roomy, rowOf, rowS, isStr, esz, tdOf, convV, buildV, fillV, partsV, okParts, fillL, D.whole, D.demoteC, D.demote, demoteL, D.global, D.leaf, D.cells, TI.agg, TD.rowish, callOpV, CC, keepB, St.borrowL, St.borrow, D.isLsl, adoptR, adoptC, adoptCL, adoptL, adopt, upd,
    List.toArray, Array.toList, List.length_cons, List.length_nil, List.length_map, List.length_append, List.length_replicate, ← List.map_take, ← List.map_drop, List.drop_zero, Nat.zero_le, Nat.le_refl, Nat.sub_zero, List.getElem?_cons_succ, List.getElem?_cons_zero, List.getElem?_nil, List.any_cons, List.any_nil, List.all_cons, List.all_nil, List.append_nil, List.nil_append, List.cons_append, List.set_cons_zero, List.set_cons_succ,
    cond_true, cond_false, decide_true, decide_false, Bool.true_and, Bool.and_true, Bool.false_and, Bool.and_false, Bool.true_or, Bool.or_true, Bool.false_or, Bool.or_false, Bool.not_true, Bool.not_false, Bool.and_self, Bool.or_self, bT, bF, ieq, ine, decide_eq_true_eq, decide_not,
    Nat.reduceEqDiff, Nat.reduceAdd, Nat.reduceSub, Nat.reduceMul, Nat.reduceLeDiff, Nat.reduceLT, Nat.zero_add, Nat.add_zero, Option.getD_some, Option.getD_none, Option.isSome_some, Option.isSome_none, reduceIte, reduceCtorEq, and_self, and_true, true_and, not_true_eq_false, not_false_eq_true, false_imp_iff, forall_const, imp_self,
    Int.reduceNeg, Int.reduceLT, Int.reduceLE, Int.reduceAdd, Int.reduceSub, Int.reduceMul, Int.reduceToNat, Int.reduceEq, ne_eq, eq_self, beq_self_eq_true]
    simp [refSplitS, c1, c2, c3, c4, c5, c6']
  · have c6' : ¬ 504 < greaterS bes (refAt bes l (l.length - 2) 2 1) l := c6
    simp only [c6, hk3, T3, T22, e_seq, e_region, e_block, e_cond, e_ret, e_skip, e_exit, e_plain, e_guard, e_nil, e_op, e_ifT, e_ifF, e_true, e_false, e_loop, e_l, e_top, e_seqN, e_seqE, e_seqR, e_blockN, e_blockR, e_blockE,
    e_finN, e_finX, e_finR, retV, resV, resL, outCL, outC, outL, outD, wantedV, opV, An.at_, prune, List.map_cons, List.map_nil, envOf, get, put, eval, ofV, nbeq, nble, binV, binV.aggV, unV, intV, eqOp, isConst, natV, optV, loadV, loadC, storeV, setC, St.at_, partV, indexAddrV, fieldAddrV, sliceV, sliceV.rowSl, sliceV.strSl, bounds, cutP,
    builtinV, lenV, maxL, maxV, appendV, St.elems, roomy, rowOf, rowS, isStr, esz, tdOf, convV, buildV, fillV, partsV, okParts, fillL, D.whole, D.demoteC, D.demote, demoteL, D.global, D.leaf, D.cells, TI.agg, TD.rowish, callOpV, CC, keepB, St.borrowL, St.borrow, D.isLsl, adoptR, adoptC, adoptCL, adoptL, adopt, upd,
    List.toArray, Array.toList, List.length_cons, List.length_nil, List.length_map, List.length_append, List.length_replicate, ← List.map_take, ← List.map_drop, List.drop_zero, Nat.zero_le, Nat.le_refl, Nat.sub_zero, List.getElem?_cons_succ, List.getElem?_cons_zero, List.getElem?_nil, List.any_cons, List.any_nil, List.all_cons, List.all_nil, List.append_nil, List.nil_append, List.cons_append, List.set_cons_zero, List.set_cons_succ,
    cond_true, cond_false, decide_true, decide_false, Bool.true_and, Bool.and_true, Bool.false_and, Bool.and_false, Bool.true_or, Bool.or_true, Bool.false_or, Bool.or_false, Bool.not_true, Bool.not_false, Bool.and_self, Bool.or_self, bT, bF, ieq, ine, decide_eq_true_eq, decide_not,
    Nat.reduceEqDiff, Nat.reduceAdd, Nat.reduceSub, Nat.reduceMul, Nat.reduceLeDiff, Nat.reduceLT, Nat.zero_add, Nat.add_zero, Option.getD_some, Option.getD_none, Option.isSome_some, Option.isSome_none, reduceIte, reduceCtorEq, and_self, and_true, true_and, not_true_eq_false, not_false_eq_true, false_imp_iff, forall_const, imp_self,
    Int.reduceNeg, Int.reduceLT, Int.reduceLE, Int.reduceAdd, Int.reduceSub, Int.reduceMul, Int.reduceToNat, Int.reduceEq, ne_eq, eq_self, beq_self_eq_true]
    simp [refSplitS, c1, c2, c3, c4, c5, c6']

set_option maxRecDepth 10000 in
theorem run16_nil (C : Callees) (bes : Int) (B : Hp) : runV T C fi16 [.nilsl, .int .i64 bes] B = some (.tuple [.int .i64 (refSplitS [] bes).1, .int .i64 (refSplitS [] bes).2], B) := by
  rw [e_run _ _ _ rfl]
  simp only [fi16, Tryd.f16, an16, T3, T22, e_seq, e_region, e_block, e_cond, e_ret, e_skip, e_exit, e_plain, e_guard, e_nil, e_op, e_ifT, e_ifF, e_true, e_false, e_loop, e_l, e_top, e_seqN, e_seqE, e_seqR, e_blockN, e_blockR, e_blockE,
    e_finN, e_finX, e_finR, retV, resV, resL, outCL, outC, outL, outD, wantedV, opV, An.at_, prune, List.map_cons, List.map_nil, envOf, get, put, eval, ofV, nbeq, nble, binV, binV.aggV, unV, intV, eqOp, isConst, natV, optV, loadV, loadC, storeV, setC, St.at_, partV, indexAddrV, fieldAddrV, sliceV, sliceV.rowSl, sliceV.strSl, bounds, cutP,
    builtinV, lenV, maxL, maxV, appendV, St.elems, roomy, rowOf, rowS, isStr, esz, tdOf, convV, buildV, fillV, partsV, okParts, fillL, D.whole, D.demoteC, D.demote, demoteL, D.global, D.leaf, D.cells, TI.agg, TD.rowish, callOpV, CC, keepB, St.borrowL, St.borrow, D.isLsl, adoptR, adoptC, adoptCL, adoptL, adopt, upd,
    List.toArray, Array.toList, List.length_cons, List.length_nil, List.length_map, List.length_append, List.length_replicate, ← List.map_take, ← List.map_drop, List.drop_zero, Nat.zero_le, Nat.le_refl, Nat.sub_zero, List.getElem?_cons_succ, List.getElem?_cons_zero, List.getElem?_nil, List.any_cons, List.any_nil, List.all_cons, List.all_nil, List.append_nil, List.nil_append, List.cons_append, List.set_cons_zero, List.set_cons_succ,
    cond_true, cond_false, decide_true, decide_false, Bool.true_and, Bool.and_true, Bool.false_and, Bool.and_false, Bool.true_or, Bool.or_true, Bool.false_or, Bool.or_false, Bool.not_true, Bool.not_false, Bool.and_self, Bool.or_self, bT, bF, ieq, ine, decide_eq_true_eq, decide_not,
    Nat.reduceEqDiff, Nat.reduceAdd, Nat.reduceSub, Nat.reduceMul, Nat.reduceLeDiff, Nat.reduceLT, Nat.zero_add, Nat.add_zero, Option.getD_some, Option.getD_none, Option.isSome_some, Option.isSome_none, reduceIte, reduceCtorEq, and_self, and_true, true_and, not_true_eq_false, not_false_eq_true, false_imp_iff, forall_const, imp_self,
    Int.reduceNeg, Int.reduceLT, Int.reduceLE, Int.reduceAdd, Int.reduceSub, Int.reduceMul, Int.reduceToNat, Int.reduceEq, ne_eq, eq_self, beq_self_eq_true]
  repeat' ((first | rw [e_if] | rw [e_bool]); split <;> rename_i hc <;> (try simp only [bT, bF, Bool.not_eq_true', decide_eq_true_eq, decide_eq_false_iff_not, Bool.not_eq_true, Bool.not_eq_false, Decidable.not_not] at hc) <;> simp only [hc, T3, T22, e_seq, e_region, e_block, e_cond, e_ret, e_skip, e_exit, e_plain, e_guard, e_nil, e_op, e_ifT, e_ifF, e_true, e_false, e_loop, e_l, e_top, e_seqN, e_seqE, e_seqR, e_blockN, e_blockR, e_blockE,
    e_finN, e_finX, e_finR, retV, resV, resL, outCL, outC, outL, outD, wantedV, opV, An.at_, prune, List.map_cons, List.map_nil, envOf, get, put, eval, ofV, nbeq, nble, binV, binV.aggV, unV, intV, eqOp, isConst, natV, optV, loadV, loadC, storeV, setC, St.at_, partV, indexAddrV, fieldAddrV, sliceV, sliceV.rowSl, sliceV.strSl, bounds, cutP,
    builtinV, lenV, maxL, maxV, appendV, St.elems, roomy, rowOf, rowS, isStr, esz, tdOf, convV, buildV, fillV, partsV, okParts, fillL, D.whole, D.demoteC, D.demote, demoteL, D.global, D.leaf, D.cells, TI.agg, TD.rowish, callOpV, CC, keepB, St.borrowL, St.borrow, D.isLsl, adoptR, adoptC, adoptCL, adoptL, adopt, upd,
    List.toArray, Array.toList, List.length_cons, List.length_nil, List.length_map, List.length_append, List.length_replicate, ← List.map_take, ← List.map_drop, List.drop_zero, Nat.zero_le, Nat.le_refl, Nat.sub_zero, List.getElem?_cons_succ, List.getElem?_cons_zero, List.getElem?_nil, List.any_cons, List.any_nil, List.all_cons, List.all_nil, List.append_nil, List.nil_append, List.cons_append, List.set_cons_zero, List.set_cons_succ,
    cond_true, cond_false, decide_true, decide_false, Bool.true_and, Bool.and_true, Bool.false_and, Bool.and_false, Bool.true_or, Bool.or_true, Bool.false_or, Bool.or_false, Bool.not_true, Bool.not_false, Bool.and_self, Bool.or_self, bT, bF, ieq, ine, decide_eq_true_eq, decide_not,
    Nat.reduceEqDiff, Nat.reduceAdd, Nat.reduceSub, Nat.reduceMul, Nat.reduceLeDiff, Nat.reduceLT, Nat.zero_add, Nat.add_zero, Option.getD_some, Option.getD_none, Option.isSome_some, Option.isSome_none, reduceIte, reduceCtorEq, and_self, and_true, true_and, not_true_eq_false, not_false_eq_true, false_imp_iff, forall_const, imp_self,
    Int.reduceNeg, Int.reduceLT, Int.reduceLE, Int.reduceAdd, Int.reduceSub, Int.reduceMul, Int.reduceToNat, Int.reduceEq, ne_eq, eq_self, beq_self_eq_true])
  all_goals simp_all [refSplitS]

theorem run16_sl (C : Callees) (l : List Int) (d : D) (hd : Sl d l) (bes : Int) (B : Hp)
    (hgr : ∀ (q : Perm) (at_ : Int), l.length ≤ 1024 → ¬ badS l → 0 ≤ bes ∧ bes ≤ 1024 → C 57 [.vec 1 (l.map (.int .i64)) q, .int .i64 bes, .int .i64 at_] B = some (.int .i64 (greaterS bes at_ l), B)) :
    runV T C fi16 [d, .int .i64 bes] B = some (.tuple [.int .i64 (refSplitS l bes).1, .int .i64 (refSplitS l bes).2], B) := by
  rcases hd with ⟨rfl, rfl⟩ | ⟨p, rfl⟩
  · exact run16_nil C bes B
  · exact run16 C l p bes B hgr

end Go.Proofs.YtdmlojinmkcldaaDoor.V
