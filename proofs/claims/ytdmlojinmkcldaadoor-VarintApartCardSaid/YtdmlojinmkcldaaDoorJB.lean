/-
Layer 3: the document's Put.
-/
import Derived.Test.YtdmlojinmkcldaaDoorJA
namespace Go.Proofs.YtdmlojinmkcldaaDoor.V
open Go Go.RowKit
set_option linter.unusedSimpArgs false
set_option linter.unusedVariables false

def st50 (v : Nat) (L : D) (τ : List Bool) (B : Hp) : St := ⟨[(1, .int .u64 v), (5, L)], [], τ, B⟩

set_option maxRecDepth 10000 in
theorem body50_end (C : Callees) (v : Nat) (L : D) (τ : List Bool) (B : Hp) (hv : v < 128) :
    ∃ ρ, go T an50 C lp50_0 .top (st50 v L τ B) = some (.exit 0, ⟨ρ, [], τ, B⟩) ∧ get ρ 1 = .int .u64 v ∧ get ρ 5 = L := by
  have h1 : ¬ (v : Int) > 127 := by omega
  simp only [st50, lp50_0, subC, atC, Tryd.f50, an50, h1, T5, T34, T65, e_seq, e_region, e_dyn, e_dynS, stepD, accs, accP, accW, simpleOp, isAl, isExt, List.flatten_cons, List.flatten_nil, e_block, e_cond, e_ret, e_skip, e_exit, e_plain, e_guard, e_nil, e_op, e_ifT, e_ifF, e_true, e_false, e_loop, e_l, e_top, e_seqN, e_seqE, e_seqR, e_blockN, e_blockR, e_blockE,
    e_finN, e_finX, e_finR, retV, resV, resL, outCL, outC, outL, outD, wantedV, opV, An.at_, prune, List.map_cons, List.map_nil, envOf, get, put, eval, ofV, nbeq, nble, binV, binV.aggV, unV, intV, eqOp, isConst, natV, optV, loadV, loadC, storeV, setC, St.at_, partV, indexAddrV, fieldAddrV, sliceV, sliceV.rowSl, sliceV.strSl, bounds, cutP,
    builtinV, lenV, maxL, maxV, appendV, St.elems, roomy, rowOf, rowS, isStr, esz, tdOf, convV, buildV, fillV, partsV, okParts, fillL, D.whole, D.demoteC, D.demote, demoteL, D.global, D.leaf, D.cells, TI.agg, TD.rowish, callOpV, CC, keepB, St.borrowL, St.borrow, D.isLsl, adoptR, adoptC, adoptCL, adoptL, adopt, upd,
    List.toArray, Array.toList, List.length_cons, List.length_nil, List.length_map, List.length_append, List.length_replicate, List.replicate_succ, List.replicate_zero, List.replicate_one, ← List.map_take, ← List.map_drop, List.drop_zero, List.take_succ_cons, List.take_zero, List.take_nil, List.drop_succ_cons, List.drop_nil, Nat.zero_le, Nat.le_refl, Nat.sub_zero, List.getElem?_cons_succ, List.getElem?_cons_zero, List.getElem?_nil, List.any_cons, List.any_nil, List.all_cons, List.all_nil, List.append_nil, List.nil_append, List.cons_append, List.set_cons_zero, List.set_cons_succ,
    cond_true, cond_false, decide_true, decide_false, Bool.true_and, Bool.and_true, Bool.false_and, Bool.and_false, Bool.true_or, Bool.or_true, Bool.false_or, Bool.or_false, Bool.not_true, Bool.not_false, Bool.and_self, Bool.or_self, bT, bF, ieq, ine, decide_eq_true_eq, decide_not,
    Nat.reduceEqDiff, Nat.reduceAdd, Nat.reduceSub, Nat.reduceMul, Nat.reduceLeDiff, Nat.reduceLT, Nat.zero_add, Nat.add_zero, Option.getD_some, Option.getD_none, Option.isSome_some, Option.isSome_none, reduceIte, reduceCtorEq, and_self, and_true, true_and, not_true_eq_false, not_false_eq_true, false_imp_iff, forall_const, imp_self,
    Int.reduceNeg, Int.reduceLT, Int.reduceLE, Int.reduceAdd, Int.reduceSub, Int.reduceMul, Int.reduceToNat, Int.reduceEq, ne_eq, eq_self, beq_self_eq_true]
  exact ⟨_, rfl, rfl, rfl⟩

set_option maxRecDepth 10000 in
theorem body50_ok (C : Callees) (v : Nat) (hv64 : v < 18446744073709551616) (xs : List UInt8) (L : D) (τ : List Bool) (B : Hp) (hv : ¬ v < 128) (hL : LB xs L τ) (hx : xs.length ≤ 200000) :
    ∃ ρ t τ', go T an50 C lp50_0 .top (st50 v L τ B) = some (.norm, ⟨ρ, [], τ', B⟩) ∧ τ'[t]? = some true ∧
      an50.at_ (some 3) ⟨ρ, [], τ', B⟩ = st50 (v / 128) (.vec 1 ((xs ++ [UInt8.ofNat (128 + v % 128)]).map byteD) (.own t)) τ' B := by
  have h1 : (v : Int) > 127 := by omega
  have h2 : IntKind.u8.wrap (IntKind.u64.wrap (128 + (v : Int).tmod 128)) = ((128 + v % 128 : Nat) : Int) := by
    rw [Int.tmod_eq_emod_of_nonneg (by omega), wrap_u64 (by omega) (by omega), wrap_u8 (by omega) (by omega)]
    omega
  have h3 : IntKind.u64.wrap ((v : Int).tdiv 128) = ((v / 128 : Nat) : Int) := by
    rw [Int.tdiv_eq_ediv_of_nonneg (by omega), wrap_u64 (by omega) (by omega)]
    omega
  obtain ⟨t, τ', ht, happ⟩ := app_bytes (ys := [UInt8.ofNat (128 + v % 128)]) hL (by simp) (by simp; omega)
  simp only [List.map_cons, List.map_nil, byteD, toNat_lo] at happ
  simp only [st50, lp50_0, subC, atC, Tryd.f50, an50, h1, h2, h3, happ, T5, T34, T65, e_seq, e_region, e_dyn, e_dynS, stepD, accs, accP, accW, simpleOp, isAl, isExt, List.flatten_cons, List.flatten_nil, e_block, e_cond, e_ret, e_skip, e_exit, e_plain, e_guard, e_nil, e_op, e_ifT, e_ifF, e_true, e_false, e_loop, e_l, e_top, e_seqN, e_seqE, e_seqR, e_blockN, e_blockR, e_blockE,
    e_finN, e_finX, e_finR, retV, resV, resL, outCL, outC, outL, outD, wantedV, opV, An.at_, prune, List.map_cons, List.map_nil, envOf, get, put, eval, ofV, nbeq, nble, binV, binV.aggV, unV, intV, eqOp, isConst, natV, optV, loadV, loadC, storeV, setC, St.at_, partV, indexAddrV, fieldAddrV, sliceV, sliceV.rowSl, sliceV.strSl, bounds, cutP,
    builtinV, lenV, maxL, maxV, St.elems, roomy, rowOf, rowS, isStr, esz, tdOf, convV, buildV, fillV, partsV, okParts, fillL, D.whole, D.demoteC, D.demote, demoteL, D.global, D.leaf, D.cells, TI.agg, TD.rowish, callOpV, CC, keepB, St.borrowL, St.borrow, D.isLsl, adoptR, adoptC, adoptCL, adoptL, adopt, upd,
    List.toArray, Array.toList, List.length_cons, List.length_nil, List.length_map, List.length_append, List.length_replicate, List.replicate_succ, List.replicate_zero, List.replicate_one, ← List.map_take, ← List.map_drop, List.drop_zero, List.take_succ_cons, List.take_zero, List.take_nil, List.drop_succ_cons, List.drop_nil, Nat.zero_le, Nat.le_refl, Nat.sub_zero, List.getElem?_cons_succ, List.getElem?_cons_zero, List.getElem?_nil, List.any_cons, List.any_nil, List.all_cons, List.all_nil, List.append_nil, List.nil_append, List.cons_append, List.set_cons_zero, List.set_cons_succ,
    cond_true, cond_false, decide_true, decide_false, Bool.true_and, Bool.and_true, Bool.false_and, Bool.and_false, Bool.true_or, Bool.or_true, Bool.false_or, Bool.or_false, Bool.not_true, Bool.not_false, Bool.and_self, Bool.or_self, bT, bF, ieq, ine, decide_eq_true_eq, decide_not,
    Nat.reduceEqDiff, Nat.reduceAdd, Nat.reduceSub, Nat.reduceMul, Nat.reduceLeDiff, Nat.reduceLT, Nat.zero_add, Nat.add_zero, Option.getD_some, Option.getD_none, Option.isSome_some, Option.isSome_none, reduceIte, reduceCtorEq, and_self, and_true, true_and, not_true_eq_false, not_false_eq_true, false_imp_iff, forall_const, imp_self,
    Int.reduceNeg, Int.reduceLT, Int.reduceLE, Int.reduceAdd, Int.reduceSub, Int.reduceMul, Int.reduceToNat, Int.reduceEq, ne_eq, eq_self, beq_self_eq_true]
  exact ⟨_, t, _, rfl, ht, rfl⟩

theorem loop50 (C : Callees) (B : Hp) : ∀ (n v : Nat) (xs : List UInt8) (L : D) (τ : List Bool) (st : St), v < 128 ^ n → v < 18446744073709551616 → 0 < n → LB xs L τ → xs.length + n ≤ 200000 → an50.at_ (some 3) st = st50 v L τ B →
    ∃ x st', loopC T an50 C lp50_0 st = some (x, st') ∧ ∃ ρ τ' w ys M, st' = ⟨ρ, [], τ', B⟩ ∧ x = .exit 0 ∧ w < 128 ∧ LB ys M τ' ∧ ys.length ≤ 200000 ∧ get ρ 1 = .int .u64 (w : Nat) ∧ get ρ 5 = M ∧ ys ++ [UInt8.ofNat w] = xs ++ putS v := by
  intro n
  induction n with
  | zero => intro v xs L τ st _ _ h; omega
  | succ n ih =>
    intro v xs L τ st hv hv64 _ hL hx hst
    by_cases h : v < 128
    · obtain ⟨ρ, h1, hg1, hg2⟩ := body50_end C v L τ B h
      exact ⟨_, _, loopC_done (by rw [show firstOf lp50_0 = some 3 from rfl, hst]; exact h1) (by simp), ρ, τ, v, xs, L, rfl, rfl, h, hL, by omega, hg1, hg2, by rw [putS_small h]⟩
    · obtain ⟨ρ, t, τ', h1, ht, hg⟩ := body50_ok C v hv64 xs L τ B h hL (by omega)
      have h2 : v / 128 < 128 ^ n := by rw [Nat.pow_succ] at hv; omega
      have hn : 0 < n := by
        rcases Nat.eq_zero_or_pos n with rfl | h3
        · simp at hv; omega
        · exact h3
      obtain ⟨x, st', h4, ρ', τ2, w, ys, M, h5, h6, h7, h8, h9, h10, h11, h12⟩ := ih (v / 128) _ _ τ' ⟨ρ, [], τ', B⟩ h2 (by omega) hn (LB.own ht) (by simp; omega) hg
      refine ⟨x, st', loopC_next (by rw [show firstOf lp50_0 = some 3 from rfl, hst]; exact h1) h4, ρ', τ2, w, ys, M, h5, h6, h7, h8, h9, h10, h11, ?_⟩
      rw [h12, putS_big h]; simp

set_option maxRecDepth 10000 in
theorem run50 (C : Callees) (d : D) (l : List UInt8) (hd : ByD d l) (v : Nat) (hv : v < 18446744073709551616) (B : Hp) (hl : l.length ≤ 100000) :
    runV T C fi50 [d, .int .u64 v] B = some (.vec 1 ((l ++ putS v).map byteD) .fresh, B) := by
  have main : ∀ (L : D) (τ : List Bool) (st : St), LB l L τ → an50.at_ (some 3) st = st50 v L τ B → ∃ x st', loopC T an50 C lp50_0 st = some (x, st') ∧ ∃ ρ τ' w ys M, st' = ⟨ρ, [], τ', B⟩ ∧ x = .exit 0 ∧ w < 128 ∧ LB ys M τ' ∧ ys.length ≤ 200000 ∧ get ρ 1 = .int .u64 (w : Nat) ∧ get ρ 5 = M ∧ ys ++ [UInt8.ofNat w] = l ++ putS v :=
    fun L τ st hL hst => loop50 C B 10 v l L τ st (pow_10 hv) hv (by omega) hL (by omega) hst
  have tail : ∀ {w : Nat} {ys : List UInt8} {M : D} {τ' : List Bool}, w < 128 → LB ys M τ' → ys.length ≤ 200000 → ys ++ [UInt8.ofNat w] = l ++ putS v → IntKind.u8.wrap (w : Int) = w ∧ ∃ t τ2, τ2[t]? = some true ∧ ∀ ρ M_1 B, appendV 1 1 ⟨ρ, M_1, τ', B⟩ M [.int .u8 w] = some (.vec 1 ((l ++ putS v).map byteD) (.own t), ⟨ρ, M_1, τ2, B⟩) := by
    intro w ys M τ' hw hL hy he
    obtain ⟨t, τ2, ht, happ⟩ := app_bytes (ys := [UInt8.ofNat w]) hL (by simp) (by simp; omega)
    have hto : ((UInt8.ofNat w).toNat : Int) = w := by simp; omega
    rw [he] at happ
    simp only [List.map_cons, List.map_nil, byteD, hto] at happ
    exact ⟨wrap_u8 (by omega) (by omega), t, τ2, ht, happ⟩
  rw [e_run _ _ _ rfl]
  by_cases h : l = []
  · subst h
    have hd' : d = .nilsl ∨ ∃ p, d = .vec 1 [] p := hd.imp (fun h => h.1) (fun ⟨p, h⟩ => ⟨p, h⟩)
    rcases hd' with rfl | ⟨p, rfl⟩ <;>
    · simp only [fi50, Tryd.f50, an50, T5, T34, T65, e_seq, e_region, e_dyn, e_dynS, stepD, accs, accP, accW, simpleOp, isAl, isExt, List.flatten_cons, List.flatten_nil, e_block, e_cond, e_ret, e_skip, e_exit, e_plain, e_guard, e_nil, e_op, e_ifT, e_ifF, e_true, e_false, e_loop, e_l, e_top, e_seqN, e_seqE, e_seqR, e_blockN, e_blockR, e_blockE,
    e_finN, e_finX, e_finR, retV, resV, resL, outCL, outC, outL, outD, wantedV, opV, An.at_, prune, List.map_cons, List.map_nil, envOf, get, put, eval, ofV, nbeq, nble, binV, binV.aggV, unV, intV, eqOp, isConst, natV, optV, loadV, loadC, storeV, setC, St.at_, partV, indexAddrV, fieldAddrV, sliceV, sliceV.rowSl, sliceV.strSl, bounds, cutP,
    builtinV, lenV, maxL, maxV, appendV, St.elems, roomy, rowOf, rowS, isStr, esz, tdOf, convV, buildV, fillV, partsV, okParts, fillL, D.whole, D.demoteC, D.demote, demoteL, D.global, D.leaf, D.cells, TI.agg, TD.rowish, callOpV, CC, keepB, St.borrowL, St.borrow, D.isLsl, adoptR, adoptC, adoptCL, adoptL, adopt, upd,
    List.toArray, Array.toList, List.length_cons, List.length_nil, List.length_map, List.length_append, List.length_replicate, List.replicate_succ, List.replicate_zero, List.replicate_one, ← List.map_take, ← List.map_drop, List.drop_zero, List.take_succ_cons, List.take_zero, List.take_nil, List.drop_succ_cons, List.drop_nil, Nat.zero_le, Nat.le_refl, Nat.sub_zero, List.getElem?_cons_succ, List.getElem?_cons_zero, List.getElem?_nil, List.any_cons, List.any_nil, List.all_cons, List.all_nil, List.append_nil, List.nil_append, List.cons_append, List.set_cons_zero, List.set_cons_succ,
    cond_true, cond_false, decide_true, decide_false, Bool.true_and, Bool.and_true, Bool.false_and, Bool.and_false, Bool.true_or, Bool.or_true, Bool.false_or, Bool.or_false, Bool.not_true, Bool.not_false, Bool.and_self, Bool.or_self, bT, bF, ieq, ine, decide_eq_true_eq, decide_not,
    Nat.reduceEqDiff, Nat.reduceAdd, Nat.reduceSub, Nat.reduceMul, Nat.reduceLeDiff, Nat.reduceLT, Nat.zero_add, Nat.add_zero, Option.getD_some, Option.getD_none, Option.isSome_some, Option.isSome_none, reduceIte, reduceCtorEq, and_self, and_true, true_and, not_true_eq_false, not_false_eq_true, false_imp_iff, forall_const, imp_self,
    Int.reduceNeg, Int.reduceLT, Int.reduceLE, Int.reduceAdd, Int.reduceSub, Int.reduceMul, Int.reduceToNat, Int.reduceEq, ne_eq, eq_self, beq_self_eq_true]
      refine' in_loop (c' := lp50_0) (fin T _) (main .nilsl [] _ (.inl ⟨rfl, .inl rfl⟩) rfl) rfl ?_
      rintro x st' ⟨ρ, τ', w, ys, M, rfl, rfl, hw, hL, hy, hg1, hg2, he⟩
      obtain ⟨hw8, t, τ2, ht, happ⟩ := tail hw hL hy he
      simp only [hg1, hg2, hw8, happ, ht, T5, T34, T65, e_seq, e_region, e_dyn, e_dynS, stepD, accs, accP, accW, simpleOp, isAl, isExt, List.flatten_cons, List.flatten_nil, e_block, e_cond, e_ret, e_skip, e_exit, e_plain, e_guard, e_nil, e_op, e_ifT, e_ifF, e_true, e_false, e_loop, e_l, e_top, e_seqN, e_seqE, e_seqR, e_blockN, e_blockR, e_blockE,
    e_finN, e_finX, e_finR, retV, resV, resL, outCL, outC, outL, outD, wantedV, opV, An.at_, prune, List.map_cons, List.map_nil, envOf, get, put, eval, ofV, nbeq, nble, binV, binV.aggV, unV, intV, eqOp, isConst, natV, optV, loadV, loadC, storeV, setC, St.at_, partV, indexAddrV, fieldAddrV, sliceV, sliceV.rowSl, sliceV.strSl, bounds, cutP,
    builtinV, lenV, maxL, maxV, St.elems, roomy, rowOf, rowS, isStr, esz, tdOf, convV, buildV, fillV, partsV, okParts, fillL, D.whole, D.demoteC, D.demote, demoteL, D.global, D.leaf, D.cells, TI.agg, TD.rowish, callOpV, CC, keepB, St.borrowL, St.borrow, D.isLsl, adoptR, adoptC, adoptCL, adoptL, adopt, upd,
    List.toArray, Array.toList, List.length_cons, List.length_nil, List.length_map, List.length_append, List.length_replicate, List.replicate_succ, List.replicate_zero, List.replicate_one, ← List.map_take, ← List.map_drop, List.drop_zero, List.take_succ_cons, List.take_zero, List.take_nil, List.drop_succ_cons, List.drop_nil, Nat.zero_le, Nat.le_refl, Nat.sub_zero, List.getElem?_cons_succ, List.getElem?_cons_zero, List.getElem?_nil, List.any_cons, List.any_nil, List.all_cons, List.all_nil, List.append_nil, List.nil_append, List.cons_append, List.set_cons_zero, List.set_cons_succ,
    cond_true, cond_false, decide_true, decide_false, Bool.true_and, Bool.and_true, Bool.false_and, Bool.and_false, Bool.true_or, Bool.or_true, Bool.false_or, Bool.or_false, Bool.not_true, Bool.not_false, Bool.and_self, Bool.or_self, bT, bF, ieq, ine, decide_eq_true_eq, decide_not,
    Nat.reduceEqDiff, Nat.reduceAdd, Nat.reduceSub, Nat.reduceMul, Nat.reduceLeDiff, Nat.reduceLT, Nat.zero_add, Nat.add_zero, Option.getD_some, Option.getD_none, Option.isSome_some, Option.isSome_none, reduceIte, reduceCtorEq, and_self, and_true, true_and, not_true_eq_false, not_false_eq_true, false_imp_iff, forall_const, imp_self,
    Int.reduceNeg, Int.reduceLT, Int.reduceLE, Int.reduceAdd, Int.reduceSub, Int.reduceMul, Int.reduceToNat, Int.reduceEq, ne_eq, eq_self, beq_self_eq_true]
  · obtain ⟨p, rfl⟩ := hd.resolve_left (fun h' => h h'.2)
    obtain ⟨t0, τ0, ht0, happ0⟩ := app_bytes (xs := []) (ys := l) (L := .nilsl) (τ := []) (.inl ⟨rfl, .inl rfl⟩) h (by simp; omega)
    simp only [List.nil_append] at happ0
    simp only [fi50, Tryd.f50, an50, happ0, T5, T34, T65, e_seq, e_region, e_dyn, e_dynS, stepD, accs, accP, accW, simpleOp, isAl, isExt, List.flatten_cons, List.flatten_nil, e_block, e_cond, e_ret, e_skip, e_exit, e_plain, e_guard, e_nil, e_op, e_ifT, e_ifF, e_true, e_false, e_loop, e_l, e_top, e_seqN, e_seqE, e_seqR, e_blockN, e_blockR, e_blockE,
    e_finN, e_finX, e_finR, retV, resV, resL, outCL, outC, outL, outD, wantedV, opV, An.at_, prune, List.map_cons, List.map_nil, envOf, get, put, eval, ofV, nbeq, nble, binV, binV.aggV, unV, intV, eqOp, isConst, natV, optV, loadV, loadC, storeV, setC, St.at_, partV, indexAddrV, fieldAddrV, sliceV, sliceV.rowSl, sliceV.strSl, bounds, cutP,
    builtinV, lenV, maxL, maxV, St.elems, roomy, rowOf, rowS, isStr, esz, tdOf, convV, buildV, fillV, partsV, okParts, fillL, D.whole, D.demoteC, D.demote, demoteL, D.global, D.leaf, D.cells, TI.agg, TD.rowish, callOpV, CC, keepB, St.borrowL, St.borrow, D.isLsl, adoptR, adoptC, adoptCL, adoptL, adopt, upd,
    List.toArray, Array.toList, List.length_cons, List.length_nil, List.length_map, List.length_append, List.length_replicate, List.replicate_succ, List.replicate_zero, List.replicate_one, ← List.map_take, ← List.map_drop, List.drop_zero, List.take_succ_cons, List.take_zero, List.take_nil, List.drop_succ_cons, List.drop_nil, Nat.zero_le, Nat.le_refl, Nat.sub_zero, List.getElem?_cons_succ, List.getElem?_cons_zero, List.getElem?_nil, List.any_cons, List.any_nil, List.all_cons, List.all_nil, List.append_nil, List.nil_append, List.cons_append, List.set_cons_zero, List.set_cons_succ,
    cond_true, cond_false, decide_true, decide_false, Bool.true_and, Bool.and_true, Bool.false_and, Bool.and_false, Bool.true_or, Bool.or_true, Bool.false_or, Bool.or_false, Bool.not_true, Bool.not_false, Bool.and_self, Bool.or_self, bT, bF, ieq, ine, decide_eq_true_eq, decide_not,
    Nat.reduceEqDiff, Nat.reduceAdd, Nat.reduceSub, Nat.reduceMul, Nat.reduceLeDiff, Nat.reduceLT, Nat.zero_add, Nat.add_zero, Option.getD_some, Option.getD_none, Option.isSome_some, Option.isSome_none, reduceIte, reduceCtorEq, and_self, and_true, true_and, not_true_eq_false, not_false_eq_true, false_imp_iff, forall_const, imp_self,
    Int.reduceNeg, Int.reduceLT, Int.reduceLE, Int.reduceAdd, Int.reduceSub, Int.reduceMul, Int.reduceToNat, Int.reduceEq, ne_eq, eq_self, beq_self_eq_true]
    refine' in_loop (c' := lp50_0) (fin T _) (main (.vec 1 (l.map byteD) (.own t0)) τ0 _ (LB.own ht0) rfl) rfl ?_
    rintro x st' ⟨ρ, τ', w, ys, M, rfl, rfl, hw, hL, hy, hg1, hg2, he⟩
    obtain ⟨hw8, t, τ2, ht, happ⟩ := tail hw hL hy he
    simp only [hg1, hg2, hw8, happ, ht, T5, T34, T65, e_seq, e_region, e_dyn, e_dynS, stepD, accs, accP, accW, simpleOp, isAl, isExt, List.flatten_cons, List.flatten_nil, e_block, e_cond, e_ret, e_skip, e_exit, e_plain, e_guard, e_nil, e_op, e_ifT, e_ifF, e_true, e_false, e_loop, e_l, e_top, e_seqN, e_seqE, e_seqR, e_blockN, e_blockR, e_blockE,
    e_finN, e_finX, e_finR, retV, resV, resL, outCL, outC, outL, outD, wantedV, opV, An.at_, prune, List.map_cons, List.map_nil, envOf, get, put, eval, ofV, nbeq, nble, binV, binV.aggV, unV, intV, eqOp, isConst, natV, optV, loadV, loadC, storeV, setC, St.at_, partV, indexAddrV, fieldAddrV, sliceV, sliceV.rowSl, sliceV.strSl, bounds, cutP,
    builtinV, lenV, maxL, maxV, St.elems, roomy, rowOf, rowS, isStr, esz, tdOf, convV, buildV, fillV, partsV, okParts, fillL, D.whole, D.demoteC, D.demote, demoteL, D.global, D.leaf, D.cells, TI.agg, TD.rowish, callOpV, CC, keepB, St.borrowL, St.borrow, D.isLsl, adoptR, adoptC, adoptCL, adoptL, adopt, upd,
    List.toArray, Array.toList, List.length_cons, List.length_nil, List.length_map, List.length_append, List.length_replicate, List.replicate_succ, List.replicate_zero, List.replicate_one, ← List.map_take, ← List.map_drop, List.drop_zero, List.take_succ_cons, List.take_zero, List.take_nil, List.drop_succ_cons, List.drop_nil, Nat.zero_le, Nat.le_refl, Nat.sub_zero, List.getElem?_cons_succ, List.getElem?_cons_zero, List.getElem?_nil, List.any_cons, List.any_nil, List.all_cons, List.all_nil, List.append_nil, List.nil_append, List.cons_append, List.set_cons_zero, List.set_cons_succ,
    cond_true, cond_false, decide_true, decide_false, Bool.true_and, Bool.and_true, Bool.false_and, Bool.and_false, Bool.true_or, Bool.or_true, Bool.false_or, Bool.or_false, Bool.not_true, Bool.not_false, Bool.and_self, Bool.or_self, bT, bF, ieq, ine, decide_eq_true_eq, decide_not,
    Nat.reduceEqDiff, Nat.reduceAdd, Nat.reduceSub, Nat.reduceMul, Nat.reduceLeDiff, Nat.reduceLT, Nat.zero_add, Nat.add_zero, Option.getD_some, Option.getD_none, Option.isSome_some, Option.isSome_none, reduceIte, reduceCtorEq, and_self, and_true, true_and, not_true_eq_false, not_false_eq_true, false_imp_iff, forall_const, imp_self,
    Int.reduceNeg, Int.reduceLT, Int.reduceLE, Int.reduceAdd, Int.reduceSub, Int.reduceMul, Int.reduceToNat, Int.reduceEq, ne_eq, eq_self, beq_self_eq_true]

end Go.Proofs.YtdmlojinmkcldaaDoor.V
