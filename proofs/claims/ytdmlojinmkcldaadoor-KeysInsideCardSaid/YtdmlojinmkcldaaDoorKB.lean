/-
Layer 7: the span of a prefix.
-/
import Derived.Test.YtdmlojinmkcldaaDoorKA
namespace Go.Proofs.YtdmlojinmkcldaaDoor.V
open Go Go.RowKit
set_option linter.unusedSimpArgs false
set_option linter.unusedVariables false

/-! warren/keys.Of -/
def an29 : An := ⟨fun | 2 => some [0, 2, 3] | _ => .none, fun _ => false, fun _ => false⟩
noncomputable def fi29 : FI := ⟨1, 29, Tryd.f29.body.getD .skip, Tryd.f29.results.toList, an29⟩
theorem ok29 : FnOk Tryd.prog 29 fi29 := ⟨⟨Tryd.f29, Tryd.func29, by kernel_rfl, rfl, rfl, rfl⟩, by decide, by kernel_rfl⟩
noncomputable def lp29_0 : Code := subC [1, 0, 1, 0, 0] (Tryd.f29.body.getD .skip)   -- keep [0, 2, 3]
/-! warren/warrenref07.Of -/
def an30 : An := ⟨fun | 2 => some [0, 2, 3] | _ => .none, fun | 25 => true | _ => false, fun _ => false⟩
noncomputable def fi30 : FI := ⟨1, 40, Tryd.f30.body.getD .skip, Tryd.f30.results.toList, an30⟩
theorem ok30 : FnOk Tryd.prog 30 fi30 := ⟨⟨Tryd.f30, Tryd.func30, by kernel_rfl, rfl, rfl, rfl⟩, by decide, by kernel_rfl⟩
noncomputable def lp30_0 : Code := subC [1, 1, 0, 0, 0] (Tryd.f30.body.getD .skip)   -- keep [0, 2, 3]

/-- How many bytes stand ahead of the last ones that are the greatest. -/
def topN (l : List UInt8) : Nat → Nat
  | 0 => 0
  | n + 1 => if l[n]? = some 255 then topN l n else n + 1

def hiS (l : List UInt8) (n : Nat) : List UInt8 := l.take n ++ [l.getD n 0 + 1]

/-- The span of a prefix. -/
def ofS (l : List UInt8) : D :=
  match topN l l.length with
  | 0 => spD l [] true
  | m + 1 => spD l (hiS l m) false

theorem byte_up {c : UInt8} (h : c ≠ 255) : IntKind.u8.wrap ((c.toNat : Int) + 1) = ((c + 1).toNat : Int) := by
  have h1 : c.toNat < 255 := by
    have := c.toNat_lt
    have : c.toNat ≠ 255 := fun e => h (UInt8.toNat_inj.1 (by simpa using e))
    omega
  have h2 : (c + 1).toNat = c.toNat + 1 := by
    rw [UInt8.toNat_add]; simp; omega
  rw [h2]
  simp [IntKind.wrap, IntKind.bits, IntKind.signed]
  omega

theorem bytesOf_map : ∀ l : List UInt8, bytesOf (l.map byteD) = some l
  | [] => rfl
  | x :: l => by
    have h := bytesOf_map l
    simp only [List.map_cons, bytesOf, h]
    simp [byteD, byteOf]

def st29 (l : List UInt8) (B : Hp) (n : Nat) : St := ⟨[(0, .str l), (2, .lptr 0 0), (3, .int .i64 ((n : Int) - 1))], [some [.str [], .str [], .bool false]], [], B⟩

set_option maxRecDepth 10000 in
theorem body29_end (C : Callees) (l : List UInt8) (B : Hp) :
    ∃ ρ, go T an29 C lp29_0 .top (st29 l B 0) = some (.exit 0, ⟨ρ, [some [.str [], .str [], .bool false]], [], B⟩) ∧ get ρ 0 = .str l ∧ get ρ 2 = .lptr 0 0 := by
  have h : ¬ ((0 : Nat) : Int) - 1 ≥ 0 := by omega
  simp only [st29, lp29_0, subC, atC, Tryd.f29, an29, h, T3, T4, T5, T9, T34, T39, e_seq, e_region, e_dyn, e_dynS, stepD, accs, accP, accW, simpleOp, isAl, isExt, List.flatten_cons, List.flatten_nil, e_block, e_cond, e_ret, e_skip, e_exit, e_plain, e_guard, e_nil, e_op, e_ifT, e_ifF, e_true, e_false, e_loop, e_l, e_top, e_seqN, e_seqE, e_seqR, e_blockN, e_blockR, e_blockE,
    e_finN, e_finX, e_finR, retV, resV, resL, outCL, outC, outL, outD, wantedV, opV, An.at_, prune, List.map_cons, List.map_nil, envOf, get, put, eval, ofV, nbeq, nble, binV, binV.aggV, unV, intV, eqOp, isConst, natV, optV, loadV, loadC, storeV, setC, St.at_, partV, indexAddrV, fieldAddrV, sliceV, sliceV.rowSl, sliceV.strSl, bounds, cutP,
    builtinV, lenV, maxL, maxV, appendV, St.elems, roomy, rowOf, rowS, isStr, esz, tdOf, convV, buildV, fillV, partsV, okParts, fillL, D.whole, D.demoteC, D.demote, demoteL, D.global, D.leaf, D.cells, TI.agg, TD.rowish, callOpV, CC, keepB, St.borrowL, St.borrow, D.isLsl, adoptR, adoptC, adoptCL, adoptL, adopt, upd,
    List.toArray, Array.toList, List.length_cons, List.length_nil, List.length_map, List.length_append, List.length_replicate, List.replicate_succ, List.replicate_zero, List.replicate_one, ← List.map_take, ← List.map_drop, List.drop_zero, List.take_succ_cons, List.take_zero, List.take_nil, List.drop_succ_cons, List.drop_nil, Nat.zero_le, Nat.le_refl, Nat.sub_zero, List.getElem?_cons_succ, List.getElem?_cons_zero, List.getElem?_nil, List.any_cons, List.any_nil, List.all_cons, List.all_nil, List.append_nil, List.nil_append, List.cons_append, List.set_cons_zero, List.set_cons_succ,
    cond_true, cond_false, decide_true, decide_false, Bool.true_and, Bool.and_true, Bool.false_and, Bool.and_false, Bool.true_or, Bool.or_true, Bool.false_or, Bool.or_false, Bool.not_true, Bool.not_false, Bool.and_self, Bool.or_self, bT, bF, ieq, ine, decide_eq_true_eq, decide_not,
    Nat.reduceEqDiff, Nat.reduceAdd, Nat.reduceSub, Nat.reduceMul, Nat.reduceLeDiff, Nat.reduceLT, Nat.zero_add, Nat.add_zero, Option.getD_some, Option.getD_none, Option.isSome_some, Option.isSome_none, reduceIte, reduceCtorEq, and_self, and_true, true_and, not_true_eq_false, not_false_eq_true, false_imp_iff, forall_const, imp_self,
    Int.reduceNeg, Int.reduceLT, Int.reduceLE, Int.reduceAdd, Int.reduceSub, Int.reduceMul, Int.reduceToNat, Int.reduceEq, ne_eq, eq_self, beq_self_eq_true]
  exact ⟨_, rfl, rfl, rfl⟩

set_option maxRecDepth 10000 in
theorem body29_ok (C : Callees) (l : List UInt8) (B : Hp) (n : Nat) (hn : l[n]? = some 255) (hl : l.length ≤ 1000000) :
    ∃ ρ, go T an29 C lp29_0 .top (st29 l B (n + 1)) = some (.norm, ⟨ρ, [some [.str [], .str [], .bool false]], [], B⟩) ∧ an29.at_ (some 2) ⟨ρ, [some [.str [], .str [], .bool false]], [], B⟩ = st29 l B n := by
  have hlt := (List.getElem?_eq_some_iff.1 hn).1
  have h1 : ((n + 1 : Nat) : Int) - 1 = n := by omega
  have h0 : (0 : Int) ≤ n := by omega
  have h2 : (n : Int) ≥ 0 := by omega
  have h3 := wrapI (x := (n : Int) - 1) (by omega) (by omega)
  have h4 : ((255 : UInt8).toNat : Int) = 255 := rfl
  simp only [st29, lp29_0, subC, atC, Tryd.f29, an29, h0, h1, h2, h3, h4, hn, byteD, Int.toNat_natCast, T3, T4, T5, T9, T34, T39, e_seq, e_region, e_dyn, e_dynS, stepD, accs, accP, accW, simpleOp, isAl, isExt, List.flatten_cons, List.flatten_nil, e_block, e_cond, e_ret, e_skip, e_exit, e_plain, e_guard, e_nil, e_op, e_ifT, e_ifF, e_true, e_false, e_loop, e_l, e_top, e_seqN, e_seqE, e_seqR, e_blockN, e_blockR, e_blockE,
    e_finN, e_finX, e_finR, retV, resV, resL, outCL, outC, outL, outD, wantedV, opV, An.at_, prune, List.map_cons, List.map_nil, envOf, get, put, eval, ofV, nbeq, nble, binV, binV.aggV, unV, intV, eqOp, isConst, natV, optV, loadV, loadC, storeV, setC, St.at_, partV, indexAddrV, fieldAddrV, sliceV, sliceV.rowSl, sliceV.strSl, bounds, cutP,
    builtinV, lenV, maxL, maxV, appendV, St.elems, roomy, rowOf, rowS, isStr, esz, tdOf, convV, buildV, fillV, partsV, okParts, fillL, D.whole, D.demoteC, D.demote, demoteL, D.global, D.leaf, D.cells, TI.agg, TD.rowish, callOpV, CC, keepB, St.borrowL, St.borrow, D.isLsl, adoptR, adoptC, adoptCL, adoptL, adopt, upd,
    List.toArray, Array.toList, List.length_cons, List.length_nil, List.length_map, List.length_append, List.length_replicate, List.replicate_succ, List.replicate_zero, List.replicate_one, ← List.map_take, ← List.map_drop, List.drop_zero, List.take_succ_cons, List.take_zero, List.take_nil, List.drop_succ_cons, List.drop_nil, Nat.zero_le, Nat.le_refl, Nat.sub_zero, List.getElem?_cons_succ, List.getElem?_cons_zero, List.getElem?_nil, List.any_cons, List.any_nil, List.all_cons, List.all_nil, List.append_nil, List.nil_append, List.cons_append, List.set_cons_zero, List.set_cons_succ,
    cond_true, cond_false, decide_true, decide_false, Bool.true_and, Bool.and_true, Bool.false_and, Bool.and_false, Bool.true_or, Bool.or_true, Bool.false_or, Bool.or_false, Bool.not_true, Bool.not_false, Bool.and_self, Bool.or_self, bT, bF, ieq, ine, decide_eq_true_eq, decide_not,
    Nat.reduceEqDiff, Nat.reduceAdd, Nat.reduceSub, Nat.reduceMul, Nat.reduceLeDiff, Nat.reduceLT, Nat.zero_add, Nat.add_zero, Option.getD_some, Option.getD_none, Option.isSome_some, Option.isSome_none, reduceIte, reduceCtorEq, and_self, and_true, true_and, not_true_eq_false, not_false_eq_true, false_imp_iff, forall_const, imp_self,
    Int.reduceNeg, Int.reduceLT, Int.reduceLE, Int.reduceAdd, Int.reduceSub, Int.reduceMul, Int.reduceToNat, Int.reduceEq, ne_eq, eq_self, beq_self_eq_true]
  exact ⟨_, rfl, rfl⟩

set_option maxRecDepth 10000 in
theorem body29_hit (C : Callees) (l : List UInt8) (B : Hp) (n : Nat) (c : UInt8) (hn : l[n]? = some c) (hc : c ≠ 255) (hl : l.length ≤ 1000000) :
    ∃ ρ, go T an29 C lp29_0 .top (st29 l B (n + 1)) = some (.ret, ⟨ρ, [some [.str l, .str (hiS l n), .bool false]], [], B⟩) ∧ get ρ 2 = .lptr 0 0 := by
  have hlt := (List.getElem?_eq_some_iff.1 hn).1
  have h1 : ((n + 1 : Nat) : Int) - 1 = n := by omega
  have h0 : (0 : Int) ≤ n := by omega
  have h2 : (n : Int) ≥ 0 := by omega
  have h4 : ¬ (c.toNat : Int) = 255 := fun e => hc (UInt8.toNat_inj.1 (by simpa using (by omega : c.toNat = 255)))
  have h5 := byte_up hc
  have h6 : n ≤ l.length := by omega
  have h7 : hiS l n = l.take n ++ [c + 1] := by simp [hiS, hn]
  have h8 : bytesOf [D.int .u8 ((c + 1).toNat : Int)] = some [c + 1] := bytesOf_map [c + 1]
  have h9 : (List.take n l).length + 1 ≤ 9223372036854775807 := by simp; omega
  simp only [st29, lp29_0, subC, atC, Tryd.f29, an29, h0, h1, h2, h4, h5, h6, h7, h8, h9, hn, byteD, strV, Int.toNat_natCast, T3, T4, T5, T9, T34, T39, e_seq, e_region, e_dyn, e_dynS, stepD, accs, accP, accW, simpleOp, isAl, isExt, List.flatten_cons, List.flatten_nil, e_block, e_cond, e_ret, e_skip, e_exit, e_plain, e_guard, e_nil, e_op, e_ifT, e_ifF, e_true, e_false, e_loop, e_l, e_top, e_seqN, e_seqE, e_seqR, e_blockN, e_blockR, e_blockE,
    e_finN, e_finX, e_finR, retV, resV, resL, outCL, outC, outL, outD, wantedV, opV, An.at_, prune, List.map_cons, List.map_nil, envOf, get, put, eval, ofV, nbeq, nble, binV, binV.aggV, unV, intV, eqOp, isConst, natV, optV, loadV, loadC, storeV, setC, St.at_, partV, indexAddrV, fieldAddrV, sliceV, sliceV.rowSl, sliceV.strSl, bounds, cutP,
    builtinV, lenV, maxL, maxV, appendV, St.elems, roomy, rowOf, rowS, isStr, esz, tdOf, convV, buildV, fillV, partsV, okParts, fillL, D.whole, D.demoteC, D.demote, demoteL, D.global, D.leaf, D.cells, TI.agg, TD.rowish, callOpV, CC, keepB, St.borrowL, St.borrow, D.isLsl, adoptR, adoptC, adoptCL, adoptL, adopt, upd,
    List.toArray, Array.toList, List.length_cons, List.length_nil, List.length_map, List.length_append, List.length_replicate, List.replicate_succ, List.replicate_zero, List.replicate_one, ← List.map_take, ← List.map_drop, List.drop_zero, List.take_succ_cons, List.take_zero, List.take_nil, List.drop_succ_cons, List.drop_nil, Nat.zero_le, Nat.le_refl, Nat.sub_zero, List.getElem?_cons_succ, List.getElem?_cons_zero, List.getElem?_nil, List.any_cons, List.any_nil, List.all_cons, List.all_nil, List.append_nil, List.nil_append, List.cons_append, List.set_cons_zero, List.set_cons_succ,
    cond_true, cond_false, decide_true, decide_false, Bool.true_and, Bool.and_true, Bool.false_and, Bool.and_false, Bool.true_or, Bool.or_true, Bool.false_or, Bool.or_false, Bool.not_true, Bool.not_false, Bool.and_self, Bool.or_self, bT, bF, ieq, ine, decide_eq_true_eq, decide_not,
    Nat.reduceEqDiff, Nat.reduceAdd, Nat.reduceSub, Nat.reduceMul, Nat.reduceLeDiff, Nat.reduceLT, Nat.zero_add, Nat.add_zero, Option.getD_some, Option.getD_none, Option.isSome_some, Option.isSome_none, reduceIte, reduceCtorEq, and_self, and_true, true_and, not_true_eq_false, not_false_eq_true, false_imp_iff, forall_const, imp_self,
    Int.reduceNeg, Int.reduceLT, Int.reduceLE, Int.reduceAdd, Int.reduceSub, Int.reduceMul, Int.reduceToNat, Int.reduceEq, ne_eq, eq_self, beq_self_eq_true]
  exact ⟨_, rfl, rfl⟩

theorem topN_hit {l : List UInt8} {n : Nat} (h : l[n]? ≠ some 255) : topN l (n + 1) = n + 1 := by simp [topN, h]
theorem topN_ok {l : List UInt8} {n : Nat} (h : l[n]? = some 255) : topN l (n + 1) = topN l n := by simp [topN, h]

theorem loop29 (C : Callees) (l : List UInt8) (B : Hp) (hl : l.length ≤ 1000000) : ∀ (n : Nat) (st : St), n ≤ l.length → an29.at_ (some 2) st = st29 l B n →
    ∃ x st', loopC T an29 C lp29_0 st = some (x, st') ∧ ∃ ρ, get ρ 2 = .lptr 0 0 ∧ ((x = .ret ∧ ∃ m, topN l n = m + 1 ∧ st' = ⟨ρ, [some [.str l, .str (hiS l m), .bool false]], [], B⟩) ∨
      (x = .exit 0 ∧ topN l n = 0 ∧ st' = ⟨ρ, [some [.str [], .str [], .bool false]], [], B⟩ ∧ get ρ 0 = .str l)) := by
  intro n
  induction n with
  | zero =>
    intro st hn hst
    obtain ⟨ρ, h, hg1, hg2⟩ := body29_end C l B
    exact ⟨_, _, loopC_done (by rw [show firstOf lp29_0 = some 2 from rfl, hst]; exact h) (by simp), ρ, hg2, .inr ⟨rfl, rfl, rfl, hg1⟩⟩
  | succ n ih =>
    intro st hn hst
    have hk := List.getElem?_eq_getElem (l := l) (i := n) (by omega)
    generalize l[n] = c at hk
    by_cases hc : c = 255
    · subst hc
      obtain ⟨ρ, h, hg⟩ := body29_ok C l B n hk hl
      obtain ⟨x, st', h4, ρ', h5, h6⟩ := ih _ (by omega) hg
      refine ⟨x, st', loopC_next (by rw [show firstOf lp29_0 = some 2 from rfl, hst]; exact h) h4, ρ', h5, ?_⟩
      rw [topN_ok hk]; exact h6
    · obtain ⟨ρ, h, hg⟩ := body29_hit C l B n c hk hc hl
      refine ⟨_, _, loopC_done (by rw [show firstOf lp29_0 = some 2 from rfl, hst]; exact h) (by simp), ρ, hg, .inl ⟨rfl, n, topN_hit (by rw [hk]; simpa using hc), rfl⟩⟩

set_option maxRecDepth 10000 in
theorem run29 (C : Callees) (l : List UInt8) (B : Hp) (hl : l.length ≤ 1000000) : runV T C fi29 [.str l] B = some (ofS l, B) := by
  have h1 := wrapI (x := (l.length : Int) - 1) (by omega) (by omega)
  rw [e_run _ _ _ rfl]
  simp only [fi29, Tryd.f29, an29, h1, T3, T4, T5, T9, T34, T39, e_seq, e_region, e_dyn, e_dynS, stepD, accs, accP, accW, simpleOp, isAl, isExt, List.flatten_cons, List.flatten_nil, e_block, e_cond, e_ret, e_skip, e_exit, e_plain, e_guard, e_nil, e_op, e_ifT, e_ifF, e_true, e_false, e_loop, e_l, e_top, e_seqN, e_seqE, e_seqR, e_blockN, e_blockR, e_blockE,
    e_finN, e_finX, e_finR, retV, resV, resL, outCL, outC, outL, outD, wantedV, opV, An.at_, prune, List.map_cons, List.map_nil, envOf, get, put, eval, ofV, nbeq, nble, binV, binV.aggV, unV, intV, eqOp, isConst, natV, optV, loadV, loadC, storeV, setC, St.at_, partV, indexAddrV, fieldAddrV, sliceV, sliceV.rowSl, sliceV.strSl, bounds, cutP,
    builtinV, lenV, maxL, maxV, appendV, St.elems, roomy, rowOf, rowS, isStr, esz, tdOf, convV, buildV, fillV, partsV, okParts, fillL, D.whole, D.demoteC, D.demote, demoteL, D.global, D.leaf, D.cells, TI.agg, TD.rowish, callOpV, CC, keepB, St.borrowL, St.borrow, D.isLsl, adoptR, adoptC, adoptCL, adoptL, adopt, upd,
    List.toArray, Array.toList, List.length_cons, List.length_nil, List.length_map, List.length_append, List.length_replicate, List.replicate_succ, List.replicate_zero, List.replicate_one, ← List.map_take, ← List.map_drop, List.drop_zero, List.take_succ_cons, List.take_zero, List.take_nil, List.drop_succ_cons, List.drop_nil, Nat.zero_le, Nat.le_refl, Nat.sub_zero, List.getElem?_cons_succ, List.getElem?_cons_zero, List.getElem?_nil, List.any_cons, List.any_nil, List.all_cons, List.all_nil, List.append_nil, List.nil_append, List.cons_append, List.set_cons_zero, List.set_cons_succ,
    cond_true, cond_false, decide_true, decide_false, Bool.true_and, Bool.and_true, Bool.false_and, Bool.and_false, Bool.true_or, Bool.or_true, Bool.false_or, Bool.or_false, Bool.not_true, Bool.not_false, Bool.and_self, Bool.or_self, bT, bF, ieq, ine, decide_eq_true_eq, decide_not,
    Nat.reduceEqDiff, Nat.reduceAdd, Nat.reduceSub, Nat.reduceMul, Nat.reduceLeDiff, Nat.reduceLT, Nat.zero_add, Nat.add_zero, Option.getD_some, Option.getD_none, Option.isSome_some, Option.isSome_none, reduceIte, reduceCtorEq, and_self, and_true, true_and, not_true_eq_false, not_false_eq_true, false_imp_iff, forall_const, imp_self,
    Int.reduceNeg, Int.reduceLT, Int.reduceLE, Int.reduceAdd, Int.reduceSub, Int.reduceMul, Int.reduceToNat, Int.reduceEq, ne_eq, eq_self, beq_self_eq_true]
  refine' in_loop (c' := lp29_0) (fin T _) ?h rfl ?q
  case h => exact loop29 C l B hl l.length _ (by omega) rfl
  rintro x st' ⟨ρ, hg, ⟨rfl, m, hm, rfl⟩ | ⟨rfl, hm, rfl, hg1⟩⟩
  · simp only [hg, ofS, hm, T3, T4, T5, T9, T34, T39, e_seq, e_region, e_dyn, e_dynS, stepD, accs, accP, accW, simpleOp, isAl, isExt, List.flatten_cons, List.flatten_nil, e_block, e_cond, e_ret, e_skip, e_exit, e_plain, e_guard, e_nil, e_op, e_ifT, e_ifF, e_true, e_false, e_loop, e_l, e_top, e_seqN, e_seqE, e_seqR, e_blockN, e_blockR, e_blockE,
    e_finN, e_finX, e_finR, retV, resV, resL, outCL, outC, outL, outD, wantedV, opV, An.at_, prune, List.map_cons, List.map_nil, envOf, get, put, eval, ofV, nbeq, nble, binV, binV.aggV, unV, intV, eqOp, isConst, natV, optV, loadV, loadC, storeV, setC, St.at_, partV, indexAddrV, fieldAddrV, sliceV, sliceV.rowSl, sliceV.strSl, bounds, cutP,
    builtinV, lenV, maxL, maxV, appendV, St.elems, roomy, rowOf, rowS, isStr, esz, tdOf, convV, buildV, fillV, partsV, okParts, fillL, D.whole, D.demoteC, D.demote, demoteL, D.global, D.leaf, D.cells, TI.agg, TD.rowish, callOpV, CC, keepB, St.borrowL, St.borrow, D.isLsl, adoptR, adoptC, adoptCL, adoptL, adopt, upd,
    List.toArray, Array.toList, List.length_cons, List.length_nil, List.length_map, List.length_append, List.length_replicate, List.replicate_succ, List.replicate_zero, List.replicate_one, ← List.map_take, ← List.map_drop, List.drop_zero, List.take_succ_cons, List.take_zero, List.take_nil, List.drop_succ_cons, List.drop_nil, Nat.zero_le, Nat.le_refl, Nat.sub_zero, List.getElem?_cons_succ, List.getElem?_cons_zero, List.getElem?_nil, List.any_cons, List.any_nil, List.all_cons, List.all_nil, List.append_nil, List.nil_append, List.cons_append, List.set_cons_zero, List.set_cons_succ,
    cond_true, cond_false, decide_true, decide_false, Bool.true_and, Bool.and_true, Bool.false_and, Bool.and_false, Bool.true_or, Bool.or_true, Bool.false_or, Bool.or_false, Bool.not_true, Bool.not_false, Bool.and_self, Bool.or_self, bT, bF, ieq, ine, decide_eq_true_eq, decide_not,
    Nat.reduceEqDiff, Nat.reduceAdd, Nat.reduceSub, Nat.reduceMul, Nat.reduceLeDiff, Nat.reduceLT, Nat.zero_add, Nat.add_zero, Option.getD_some, Option.getD_none, Option.isSome_some, Option.isSome_none, reduceIte, reduceCtorEq, and_self, and_true, true_and, not_true_eq_false, not_false_eq_true, false_imp_iff, forall_const, imp_self,
    Int.reduceNeg, Int.reduceLT, Int.reduceLE, Int.reduceAdd, Int.reduceSub, Int.reduceMul, Int.reduceToNat, Int.reduceEq, ne_eq, eq_self, beq_self_eq_true]
  · simp only [hg, hg1, ofS, hm, T3, T4, T5, T9, T34, T39, e_seq, e_region, e_dyn, e_dynS, stepD, accs, accP, accW, simpleOp, isAl, isExt, List.flatten_cons, List.flatten_nil, e_block, e_cond, e_ret, e_skip, e_exit, e_plain, e_guard, e_nil, e_op, e_ifT, e_ifF, e_true, e_false, e_loop, e_l, e_top, e_seqN, e_seqE, e_seqR, e_blockN, e_blockR, e_blockE,
    e_finN, e_finX, e_finR, retV, resV, resL, outCL, outC, outL, outD, wantedV, opV, An.at_, prune, List.map_cons, List.map_nil, envOf, get, put, eval, ofV, nbeq, nble, binV, binV.aggV, unV, intV, eqOp, isConst, natV, optV, loadV, loadC, storeV, setC, St.at_, partV, indexAddrV, fieldAddrV, sliceV, sliceV.rowSl, sliceV.strSl, bounds, cutP,
    builtinV, lenV, maxL, maxV, appendV, St.elems, roomy, rowOf, rowS, isStr, esz, tdOf, convV, buildV, fillV, partsV, okParts, fillL, D.whole, D.demoteC, D.demote, demoteL, D.global, D.leaf, D.cells, TI.agg, TD.rowish, callOpV, CC, keepB, St.borrowL, St.borrow, D.isLsl, adoptR, adoptC, adoptCL, adoptL, adopt, upd,
    List.toArray, Array.toList, List.length_cons, List.length_nil, List.length_map, List.length_append, List.length_replicate, List.replicate_succ, List.replicate_zero, List.replicate_one, ← List.map_take, ← List.map_drop, List.drop_zero, List.take_succ_cons, List.take_zero, List.take_nil, List.drop_succ_cons, List.drop_nil, Nat.zero_le, Nat.le_refl, Nat.sub_zero, List.getElem?_cons_succ, List.getElem?_cons_zero, List.getElem?_nil, List.any_cons, List.any_nil, List.all_cons, List.all_nil, List.append_nil, List.nil_append, List.cons_append, List.set_cons_zero, List.set_cons_succ,
    cond_true, cond_false, decide_true, decide_false, Bool.true_and, Bool.and_true, Bool.false_and, Bool.and_false, Bool.true_or, Bool.or_true, Bool.false_or, Bool.or_false, Bool.not_true, Bool.not_false, Bool.and_self, Bool.or_self, bT, bF, ieq, ine, decide_eq_true_eq, decide_not,
    Nat.reduceEqDiff, Nat.reduceAdd, Nat.reduceSub, Nat.reduceMul, Nat.reduceLeDiff, Nat.reduceLT, Nat.zero_add, Nat.add_zero, Option.getD_some, Option.getD_none, Option.isSome_some, Option.isSome_none, reduceIte, reduceCtorEq, and_self, and_true, true_and, not_true_eq_false, not_false_eq_true, false_imp_iff, forall_const, imp_self,
    Int.reduceNeg, Int.reduceLT, Int.reduceLE, Int.reduceAdd, Int.reduceSub, Int.reduceMul, Int.reduceToNat, Int.reduceEq, ne_eq, eq_self, beq_self_eq_true]

/-! ### The document's -/
def st30 (l : List UInt8) (B : Hp) (n : Nat) : St := ⟨[(0, .str l), (2, .lptr 0 0), (3, .int .i64 n)], [some [.str [], .str [], .bool false]], [], B⟩

set_option maxRecDepth 10000 in
theorem body30_end (C : Callees) (l : List UInt8) (B : Hp) (n : Nat) (hn : n ≤ l.length) (hl : l.length ≤ 1000000) (h : topN l n = n) :
    ∃ ρ, go T an30 C lp30_0 .top (st30 l B n) = some (.exit 0, ⟨ρ, [some [.str [], .str [], .bool false]], [], B⟩) ∧ get ρ 0 = .str l ∧ get ρ 2 = .lptr 0 0 ∧ get ρ 3 = .int .i64 n := by
  cases n with
  | zero =>
    simp only [st30, lp30_0, subC, atC, Tryd.f30, an30, Int.natCast_zero, gt_iff_lt, Int.lt_irrefl, T3, T4, T5, T9, T34, T37, e_seq, e_region, e_dyn, e_dynS, stepD, accs, accP, accW, simpleOp, isAl, isExt, List.flatten_cons, List.flatten_nil, e_block, e_cond, e_ret, e_skip, e_exit, e_plain, e_guard, e_nil, e_op, e_ifT, e_ifF, e_true, e_false, e_loop, e_l, e_top, e_seqN, e_seqE, e_seqR, e_blockN, e_blockR, e_blockE,
    e_finN, e_finX, e_finR, retV, resV, resL, outCL, outC, outL, outD, wantedV, opV, An.at_, prune, List.map_cons, List.map_nil, envOf, get, put, eval, ofV, nbeq, nble, binV, binV.aggV, unV, intV, eqOp, isConst, natV, optV, loadV, loadC, storeV, setC, St.at_, partV, indexAddrV, fieldAddrV, sliceV, sliceV.rowSl, sliceV.strSl, bounds, cutP,
    builtinV, lenV, maxL, maxV, appendV, St.elems, roomy, rowOf, rowS, isStr, esz, tdOf, convV, buildV, fillV, partsV, okParts, fillL, D.whole, D.demoteC, D.demote, demoteL, D.global, D.leaf, D.cells, TI.agg, TD.rowish, callOpV, CC, keepB, St.borrowL, St.borrow, D.isLsl, adoptR, adoptC, adoptCL, adoptL, adopt, upd,
    List.toArray, Array.toList, List.length_cons, List.length_nil, List.length_map, List.length_append, List.length_replicate, List.replicate_succ, List.replicate_zero, List.replicate_one, ← List.map_take, ← List.map_drop, List.drop_zero, List.take_succ_cons, List.take_zero, List.take_nil, List.drop_succ_cons, List.drop_nil, Nat.zero_le, Nat.le_refl, Nat.sub_zero, List.getElem?_cons_succ, List.getElem?_cons_zero, List.getElem?_nil, List.any_cons, List.any_nil, List.all_cons, List.all_nil, List.append_nil, List.nil_append, List.cons_append, List.set_cons_zero, List.set_cons_succ,
    cond_true, cond_false, decide_true, decide_false, Bool.true_and, Bool.and_true, Bool.false_and, Bool.and_false, Bool.true_or, Bool.or_true, Bool.false_or, Bool.or_false, Bool.not_true, Bool.not_false, Bool.and_self, Bool.or_self, bT, bF, ieq, ine, decide_eq_true_eq, decide_not,
    Nat.reduceEqDiff, Nat.reduceAdd, Nat.reduceSub, Nat.reduceMul, Nat.reduceLeDiff, Nat.reduceLT, Nat.zero_add, Nat.add_zero, Option.getD_some, Option.getD_none, Option.isSome_some, Option.isSome_none, reduceIte, reduceCtorEq, and_self, and_true, true_and, not_true_eq_false, not_false_eq_true, false_imp_iff, forall_const, imp_self,
    Int.reduceNeg, Int.reduceLT, Int.reduceLE, Int.reduceAdd, Int.reduceSub, Int.reduceMul, Int.reduceToNat, Int.reduceEq, ne_eq, eq_self, beq_self_eq_true]
    exact ⟨_, rfl, rfl, rfl, rfl⟩
  | succ n =>
    have hk := List.getElem?_eq_getElem (l := l) (i := n) (by omega)
    generalize l[n] = c at hk
    have hc : c ≠ 255 := fun e => by
      rw [e] at hk
      rw [topN_ok hk] at h
      have : ∀ m, topN l m ≤ m := fun m => by
        induction m with
        | zero => simp [topN]
        | succ m ih => simp only [topN]; split <;> omega
      have := this n
      omega
    have h0 : (0 : Int) ≤ n := by omega
    have h1 := wrapI (x := ((n + 1 : Nat) : Int) - 1) (by omega) (by omega)
    have h1' : ((n + 1 : Nat) : Int) - 1 = n := by omega
    have h2 : ((n + 1 : Nat) : Int) > 0 := by omega
    have h4 : ¬ (c.toNat : Int) = 255 := fun e => hc (UInt8.toNat_inj.1 (by simpa using (by omega : c.toNat = 255)))
    rw [h1'] at h1
    simp only [st30, lp30_0, subC, atC, Tryd.f30, an30, h0, h1, h1', h2, h4, hk, byteD, Int.toNat_natCast, T3, T4, T5, T9, T34, T37, e_seq, e_region, e_dyn, e_dynS, stepD, accs, accP, accW, simpleOp, isAl, isExt, List.flatten_cons, List.flatten_nil, e_block, e_cond, e_ret, e_skip, e_exit, e_plain, e_guard, e_nil, e_op, e_ifT, e_ifF, e_true, e_false, e_loop, e_l, e_top, e_seqN, e_seqE, e_seqR, e_blockN, e_blockR, e_blockE,
    e_finN, e_finX, e_finR, retV, resV, resL, outCL, outC, outL, outD, wantedV, opV, An.at_, prune, List.map_cons, List.map_nil, envOf, get, put, eval, ofV, nbeq, nble, binV, binV.aggV, unV, intV, eqOp, isConst, natV, optV, loadV, loadC, storeV, setC, St.at_, partV, indexAddrV, fieldAddrV, sliceV, sliceV.rowSl, sliceV.strSl, bounds, cutP,
    builtinV, lenV, maxL, maxV, appendV, St.elems, roomy, rowOf, rowS, isStr, esz, tdOf, convV, buildV, fillV, partsV, okParts, fillL, D.whole, D.demoteC, D.demote, demoteL, D.global, D.leaf, D.cells, TI.agg, TD.rowish, callOpV, CC, keepB, St.borrowL, St.borrow, D.isLsl, adoptR, adoptC, adoptCL, adoptL, adopt, upd,
    List.toArray, Array.toList, List.length_cons, List.length_nil, List.length_map, List.length_append, List.length_replicate, List.replicate_succ, List.replicate_zero, List.replicate_one, ← List.map_take, ← List.map_drop, List.drop_zero, List.take_succ_cons, List.take_zero, List.take_nil, List.drop_succ_cons, List.drop_nil, Nat.zero_le, Nat.le_refl, Nat.sub_zero, List.getElem?_cons_succ, List.getElem?_cons_zero, List.getElem?_nil, List.any_cons, List.any_nil, List.all_cons, List.all_nil, List.append_nil, List.nil_append, List.cons_append, List.set_cons_zero, List.set_cons_succ,
    cond_true, cond_false, decide_true, decide_false, Bool.true_and, Bool.and_true, Bool.false_and, Bool.and_false, Bool.true_or, Bool.or_true, Bool.false_or, Bool.or_false, Bool.not_true, Bool.not_false, Bool.and_self, Bool.or_self, bT, bF, ieq, ine, decide_eq_true_eq, decide_not,
    Nat.reduceEqDiff, Nat.reduceAdd, Nat.reduceSub, Nat.reduceMul, Nat.reduceLeDiff, Nat.reduceLT, Nat.zero_add, Nat.add_zero, Option.getD_some, Option.getD_none, Option.isSome_some, Option.isSome_none, reduceIte, reduceCtorEq, and_self, and_true, true_and, not_true_eq_false, not_false_eq_true, false_imp_iff, forall_const, imp_self,
    Int.reduceNeg, Int.reduceLT, Int.reduceLE, Int.reduceAdd, Int.reduceSub, Int.reduceMul, Int.reduceToNat, Int.reduceEq, ne_eq, eq_self, beq_self_eq_true]
    exact ⟨_, rfl, rfl, rfl, rfl⟩

set_option maxRecDepth 10000 in
theorem body30_ok (C : Callees) (l : List UInt8) (B : Hp) (n : Nat) (hn : l[n]? = some 255) (hl : l.length ≤ 1000000) :
    ∃ ρ, go T an30 C lp30_0 .top (st30 l B (n + 1)) = some (.norm, ⟨ρ, [some [.str [], .str [], .bool false]], [], B⟩) ∧ an30.at_ (some 2) ⟨ρ, [some [.str [], .str [], .bool false]], [], B⟩ = st30 l B n := by
  have hlt := (List.getElem?_eq_some_iff.1 hn).1
  have h0 : (0 : Int) ≤ n := by omega
  have h1 := wrapI (x := ((n + 1 : Nat) : Int) - 1) (by omega) (by omega)
  have h1' : ((n + 1 : Nat) : Int) - 1 = n := by omega
  have h2 : ((n + 1 : Nat) : Int) > 0 := by omega
  have h4 : ((255 : UInt8).toNat : Int) = 255 := rfl
  rw [h1'] at h1
  simp only [st30, lp30_0, subC, atC, Tryd.f30, an30, h0, h1, h1', h2, h4, hn, byteD, Int.toNat_natCast, T3, T4, T5, T9, T34, T37, e_seq, e_region, e_dyn, e_dynS, stepD, accs, accP, accW, simpleOp, isAl, isExt, List.flatten_cons, List.flatten_nil, e_block, e_cond, e_ret, e_skip, e_exit, e_plain, e_guard, e_nil, e_op, e_ifT, e_ifF, e_true, e_false, e_loop, e_l, e_top, e_seqN, e_seqE, e_seqR, e_blockN, e_blockR, e_blockE,
    e_finN, e_finX, e_finR, retV, resV, resL, outCL, outC, outL, outD, wantedV, opV, An.at_, prune, List.map_cons, List.map_nil, envOf, get, put, eval, ofV, nbeq, nble, binV, binV.aggV, unV, intV, eqOp, isConst, natV, optV, loadV, loadC, storeV, setC, St.at_, partV, indexAddrV, fieldAddrV, sliceV, sliceV.rowSl, sliceV.strSl, bounds, cutP,
    builtinV, lenV, maxL, maxV, appendV, St.elems, roomy, rowOf, rowS, isStr, esz, tdOf, convV, buildV, fillV, partsV, okParts, fillL, D.whole, D.demoteC, D.demote, demoteL, D.global, D.leaf, D.cells, TI.agg, TD.rowish, callOpV, CC, keepB, St.borrowL, St.borrow, D.isLsl, adoptR, adoptC, adoptCL, adoptL, adopt, upd,
    List.toArray, Array.toList, List.length_cons, List.length_nil, List.length_map, List.length_append, List.length_replicate, List.replicate_succ, List.replicate_zero, List.replicate_one, ← List.map_take, ← List.map_drop, List.drop_zero, List.take_succ_cons, List.take_zero, List.take_nil, List.drop_succ_cons, List.drop_nil, Nat.zero_le, Nat.le_refl, Nat.sub_zero, List.getElem?_cons_succ, List.getElem?_cons_zero, List.getElem?_nil, List.any_cons, List.any_nil, List.all_cons, List.all_nil, List.append_nil, List.nil_append, List.cons_append, List.set_cons_zero, List.set_cons_succ,
    cond_true, cond_false, decide_true, decide_false, Bool.true_and, Bool.and_true, Bool.false_and, Bool.and_false, Bool.true_or, Bool.or_true, Bool.false_or, Bool.or_false, Bool.not_true, Bool.not_false, Bool.and_self, Bool.or_self, bT, bF, ieq, ine, decide_eq_true_eq, decide_not,
    Nat.reduceEqDiff, Nat.reduceAdd, Nat.reduceSub, Nat.reduceMul, Nat.reduceLeDiff, Nat.reduceLT, Nat.zero_add, Nat.add_zero, Option.getD_some, Option.getD_none, Option.isSome_some, Option.isSome_none, reduceIte, reduceCtorEq, and_self, and_true, true_and, not_true_eq_false, not_false_eq_true, false_imp_iff, forall_const, imp_self,
    Int.reduceNeg, Int.reduceLT, Int.reduceLE, Int.reduceAdd, Int.reduceSub, Int.reduceMul, Int.reduceToNat, Int.reduceEq, ne_eq, eq_self, beq_self_eq_true]
  exact ⟨_, rfl, rfl⟩

theorem topN_self (l : List UInt8) : ∀ n, topN l (topN l n) = topN l n
  | 0 => rfl
  | n + 1 => by
    by_cases h : l[n]? = some 255
    · rw [topN_ok h]; exact topN_self l n
    · rw [topN_hit h, topN_hit h]

theorem topN_le (l : List UInt8) : ∀ m, topN l m ≤ m
  | 0 => Nat.le_refl _
  | m + 1 => by
    have := topN_le l m
    simp only [topN]; split <;> omega

theorem loop30 (C : Callees) (l : List UInt8) (B : Hp) (hl : l.length ≤ 1000000) : ∀ (n : Nat) (st : St), n ≤ l.length → an30.at_ (some 2) st = st30 l B n →
    ∃ x st', loopC T an30 C lp30_0 st = some (x, st') ∧ ∃ ρ, x = .exit 0 ∧ st' = ⟨ρ, [some [.str [], .str [], .bool false]], [], B⟩ ∧ get ρ 0 = .str l ∧ get ρ 2 = .lptr 0 0 ∧ get ρ 3 = .int .i64 (topN l n : Nat) := by
  intro n
  induction n with
  | zero =>
    intro st hn hst
    obtain ⟨ρ, h, hg1, hg2, hg3⟩ := body30_end C l B 0 (by omega) hl rfl
    exact ⟨_, _, loopC_done (by rw [show firstOf lp30_0 = some 2 from rfl, hst]; exact h) (by simp), ρ, rfl, rfl, hg1, hg2, hg3⟩
  | succ n ih =>
    intro st hn hst
    by_cases hc : l[n]? = some 255
    · obtain ⟨ρ, h, hg⟩ := body30_ok C l B n hc hl
      obtain ⟨x, st', h4, h5⟩ := ih _ (by omega) hg
      refine ⟨x, st', loopC_next (by rw [show firstOf lp30_0 = some 2 from rfl, hst]; exact h) h4, ?_⟩
      rw [topN_ok hc]; exact h5
    · obtain ⟨ρ, h, hg1, hg2, hg3⟩ := body30_end C l B (n + 1) hn hl (topN_hit hc)
      refine ⟨_, _, loopC_done (by rw [show firstOf lp30_0 = some 2 from rfl, hst]; exact h) (by simp), ρ, rfl, rfl, hg1, hg2, ?_⟩
      rw [topN_hit hc]; exact hg3

theorem all_byte (p : D → Bool) (hp : ∀ b, p (byteD b) = true) (l : List UInt8) : (l.map byteD).all p = true := by
  rw [List.all_eq_true]
  intro x hx
  obtain ⟨b, _, rfl⟩ := List.mem_map.1 hx
  exact hp b

set_option maxRecDepth 10000 in
theorem run30 (C : Callees) (l : List UInt8) (B : Hp) (hl : l.length ≤ 1000000) : runV T C fi30 [.str l] B = some (ofS l, B) := by
  rw [e_run _ _ _ rfl]
  simp only [fi30, Tryd.f30, an30, T3, T4, T5, T9, T34, T37, e_seq, e_region, e_dyn, e_dynS, stepD, accs, accP, accW, simpleOp, isAl, isExt, List.flatten_cons, List.flatten_nil, e_block, e_cond, e_ret, e_skip, e_exit, e_plain, e_guard, e_nil, e_op, e_ifT, e_ifF, e_true, e_false, e_loop, e_l, e_top, e_seqN, e_seqE, e_seqR, e_blockN, e_blockR, e_blockE,
    e_finN, e_finX, e_finR, retV, resV, resL, outCL, outC, outL, outD, wantedV, opV, An.at_, prune, List.map_cons, List.map_nil, envOf, get, put, eval, ofV, nbeq, nble, binV, binV.aggV, unV, intV, eqOp, isConst, natV, optV, loadV, loadC, storeV, setC, St.at_, partV, indexAddrV, fieldAddrV, sliceV, sliceV.rowSl, sliceV.strSl, bounds, cutP,
    builtinV, lenV, maxL, maxV, appendV, St.elems, roomy, rowOf, rowS, isStr, esz, tdOf, convV, buildV, fillV, partsV, okParts, fillL, D.whole, D.demoteC, D.demote, demoteL, D.global, D.leaf, D.cells, TI.agg, TD.rowish, callOpV, CC, keepB, St.borrowL, St.borrow, D.isLsl, adoptR, adoptC, adoptCL, adoptL, adopt, upd,
    List.toArray, Array.toList, List.length_cons, List.length_nil, List.length_map, List.length_append, List.length_replicate, List.replicate_succ, List.replicate_zero, List.replicate_one, ← List.map_take, ← List.map_drop, List.drop_zero, List.take_succ_cons, List.take_zero, List.take_nil, List.drop_succ_cons, List.drop_nil, Nat.zero_le, Nat.le_refl, Nat.sub_zero, List.getElem?_cons_succ, List.getElem?_cons_zero, List.getElem?_nil, List.any_cons, List.any_nil, List.all_cons, List.all_nil, List.append_nil, List.nil_append, List.cons_append, List.set_cons_zero, List.set_cons_succ,
    cond_true, cond_false, decide_true, decide_false, Bool.true_and, Bool.and_true, Bool.false_and, Bool.and_false, Bool.true_or, Bool.or_true, Bool.false_or, Bool.or_false, Bool.not_true, Bool.not_false, Bool.and_self, Bool.or_self, bT, bF, ieq, ine, decide_eq_true_eq, decide_not,
    Nat.reduceEqDiff, Nat.reduceAdd, Nat.reduceSub, Nat.reduceMul, Nat.reduceLeDiff, Nat.reduceLT, Nat.zero_add, Nat.add_zero, Option.getD_some, Option.getD_none, Option.isSome_some, Option.isSome_none, reduceIte, reduceCtorEq, and_self, and_true, true_and, not_true_eq_false, not_false_eq_true, false_imp_iff, forall_const, imp_self,
    Int.reduceNeg, Int.reduceLT, Int.reduceLE, Int.reduceAdd, Int.reduceSub, Int.reduceMul, Int.reduceToNat, Int.reduceEq, ne_eq, eq_self, beq_self_eq_true]
  refine' in_loop (c' := lp30_0) (fin T _) ?h rfl ?q
  case h => exact loop30 C l B hl l.length _ (by omega) rfl
  rintro x st' ⟨ρ, rfl, rfl, hg1, hg2, hg3⟩
  have hle := topN_le l l.length
  have hself := topN_self l l.length
  cases hm : topN l l.length with
  | zero =>
    rw [hm] at hg3
    simp only [hg1, hg2, hg3, ofS, hm, Int.natCast_zero, T3, T4, T5, T9, T34, T37, e_seq, e_region, e_dyn, e_dynS, stepD, accs, accP, accW, simpleOp, isAl, isExt, List.flatten_cons, List.flatten_nil, e_block, e_cond, e_ret, e_skip, e_exit, e_plain, e_guard, e_nil, e_op, e_ifT, e_ifF, e_true, e_false, e_loop, e_l, e_top, e_seqN, e_seqE, e_seqR, e_blockN, e_blockR, e_blockE,
    e_finN, e_finX, e_finR, retV, resV, resL, outCL, outC, outL, outD, wantedV, opV, An.at_, prune, List.map_cons, List.map_nil, envOf, get, put, eval, ofV, nbeq, nble, binV, binV.aggV, unV, intV, eqOp, isConst, natV, optV, loadV, loadC, storeV, setC, St.at_, partV, indexAddrV, fieldAddrV, sliceV, sliceV.rowSl, sliceV.strSl, bounds, cutP,
    builtinV, lenV, maxL, maxV, appendV, St.elems, roomy, rowOf, rowS, isStr, esz, tdOf, convV, buildV, fillV, partsV, okParts, fillL, D.whole, D.demoteC, D.demote, demoteL, D.global, D.leaf, D.cells, TI.agg, TD.rowish, callOpV, CC, keepB, St.borrowL, St.borrow, D.isLsl, adoptR, adoptC, adoptCL, adoptL, adopt, upd,
    List.toArray, Array.toList, List.length_cons, List.length_nil, List.length_map, List.length_append, List.length_replicate, List.replicate_succ, List.replicate_zero, List.replicate_one, ← List.map_take, ← List.map_drop, List.drop_zero, List.take_succ_cons, List.take_zero, List.take_nil, List.drop_succ_cons, List.drop_nil, Nat.zero_le, Nat.le_refl, Nat.sub_zero, List.getElem?_cons_succ, List.getElem?_cons_zero, List.getElem?_nil, List.any_cons, List.any_nil, List.all_cons, List.all_nil, List.append_nil, List.nil_append, List.cons_append, List.set_cons_zero, List.set_cons_succ,
    cond_true, cond_false, decide_true, decide_false, Bool.true_and, Bool.and_true, Bool.false_and, Bool.and_false, Bool.true_or, Bool.or_true, Bool.false_or, Bool.or_false, Bool.not_true, Bool.not_false, Bool.and_self, Bool.or_self, bT, bF, ieq, ine, decide_eq_true_eq, decide_not,
    Nat.reduceEqDiff, Nat.reduceAdd, Nat.reduceSub, Nat.reduceMul, Nat.reduceLeDiff, Nat.reduceLT, Nat.zero_add, Nat.add_zero, Option.getD_some, Option.getD_none, Option.isSome_some, Option.isSome_none, reduceIte, reduceCtorEq, and_self, and_true, true_and, not_true_eq_false, not_false_eq_true, false_imp_iff, forall_const, imp_self,
    Int.reduceNeg, Int.reduceLT, Int.reduceLE, Int.reduceAdd, Int.reduceSub, Int.reduceMul, Int.reduceToNat, Int.reduceEq, ne_eq, eq_self, beq_self_eq_true]
  | succ m =>
    rw [hm] at hg3 hle hself
    have hk := List.getElem?_eq_getElem (l := l) (i := m) (by omega)
    generalize l[m] = c at hk
    have hc : c ≠ 255 := fun e => by
      rw [e] at hk
      rw [topN_ok hk] at hself
      have := topN_le l m
      omega
    have h0 : (0 : Int) ≤ m := by omega
    have h0' : (0 : Int) ≤ ((m + 1 : Nat) : Int) := by omega
    have h1 := wrapI (x := ((m + 1 : Nat) : Int) - 1) (by omega) (by omega)
    have h1' : ((m + 1 : Nat) : Int) - 1 = m := by omega
    have h2 : ¬ ((m + 1 : Nat) : Int) = 0 := by omega
    rw [h1'] at h1
    have h5 := byte_up hc
    have h7 : hiS l m = l.take m ++ [c + 1] := by simp [hiS, hk]
    have q0 : l.take (m + 1) = l.take m ++ [c] := by rw [List.take_add_one, hk]; rfl
    have q1 : (l.take (m + 1)).length = m + 1 := by simp; omega
    have q2 : (l.take (m + 1))[m]? = some c := by rw [List.getElem?_take_of_lt (by omega)]; exact hk
    have q3 : setC ((l.take (m + 1)).map byteD) m [.int .u8 ((c + 1).toNat : Int)] = (l.take m ++ [c + 1]).map byteD := by
      have : (l.take m).length = m := by simp; omega
      unfold setC
      rw [q0, List.map_append, List.take_append_of_le_length (by rw [List.length_map]; omega), List.take_of_length_le (by rw [List.length_map]; omega), List.drop_eq_nil_of_le (by simp only [List.length_append, List.length_map, List.length_cons, List.length_nil]; omega), List.append_nil, List.map_append]
      rfl
    have q4 : (l.take m ++ [c + 1]).length = m + 1 := by simp; omega
    have q5 : ((l.take m ++ [c + 1]).map byteD).all D.global = true := all_byte _ (fun _ => rfl) _
    have q6 := bytesOf_map (l.take m ++ [c + 1])
    have q7 : List.take (m + 1) ((l.take m ++ [c + 1]).map byteD) = (l.take m ++ [c + 1]).map byteD := List.take_of_length_le (by rw [List.length_map, q4]; omega)
    have q8 : m < m + 1 := by omega
    have q9 : m ≤ (l.take m).length := by simp; omega
    simp only [hg1, hg2, hg3, ofS, hm, h0, h0', h1, h1', h2, h5, h7, hle, q1, q2, q3, q5, q6, q7, q8, q9, Nat.mul_one, List.getElem?_map, Option.map_some, byteD, Int.toNat_natCast, T3, T4, T5, T9, T34, T37, e_seq, e_region, e_dyn, e_dynS, stepD, accs, accP, accW, simpleOp, isAl, isExt, List.flatten_cons, List.flatten_nil, e_block, e_cond, e_ret, e_skip, e_exit, e_plain, e_guard, e_nil, e_op, e_ifT, e_ifF, e_true, e_false, e_loop, e_l, e_top, e_seqN, e_seqE, e_seqR, e_blockN, e_blockR, e_blockE,
    e_finN, e_finX, e_finR, retV, resV, resL, outCL, outC, outL, outD, wantedV, opV, An.at_, prune, List.map_cons, List.map_nil, envOf, get, put, eval, ofV, nbeq, nble, binV, binV.aggV, unV, intV, eqOp, isConst, natV, optV, loadV, loadC, storeV, St.at_, partV, indexAddrV, fieldAddrV, sliceV, sliceV.rowSl, sliceV.strSl, bounds, cutP,
    builtinV, lenV, maxL, maxV, appendV, St.elems, roomy, rowOf, rowS, isStr, esz, tdOf, convV, buildV, fillV, partsV, okParts, fillL, D.whole, D.demoteC, D.demote, demoteL, D.global, D.leaf, D.cells, TI.agg, TD.rowish, callOpV, CC, keepB, St.borrowL, St.borrow, D.isLsl, adoptR, adoptC, adoptCL, adoptL, adopt, upd,
    List.toArray, Array.toList, List.length_cons, List.length_nil, List.length_map, List.length_append, List.length_replicate, List.replicate_succ, List.replicate_zero, List.replicate_one, ← List.map_take, ← List.map_drop, List.drop_zero, List.take_succ_cons, List.take_zero, List.take_nil, List.drop_succ_cons, List.drop_nil, Nat.zero_le, Nat.le_refl, Nat.sub_zero, List.getElem?_cons_succ, List.getElem?_cons_zero, List.getElem?_nil, List.any_cons, List.any_nil, List.all_cons, List.all_nil, List.append_nil, List.nil_append, List.cons_append, List.set_cons_zero, List.set_cons_succ,
    cond_true, cond_false, decide_true, decide_false, Bool.true_and, Bool.and_true, Bool.false_and, Bool.and_false, Bool.true_or, Bool.or_true, Bool.false_or, Bool.or_false, Bool.not_true, Bool.not_false, Bool.and_self, Bool.or_self, bT, bF, ieq, ine, decide_eq_true_eq, decide_not,
    Nat.reduceEqDiff, Nat.reduceAdd, Nat.reduceSub, Nat.reduceMul, Nat.reduceLeDiff, Nat.reduceLT, Nat.zero_add, Nat.add_zero, Option.getD_some, Option.getD_none, Option.isSome_some, Option.isSome_none, reduceIte, reduceCtorEq, and_self, and_true, true_and, not_true_eq_false, not_false_eq_true, false_imp_iff, forall_const, imp_self,
    Int.reduceNeg, Int.reduceLT, Int.reduceLE, Int.reduceAdd, Int.reduceSub, Int.reduceMul, Int.reduceToNat, Int.reduceEq, ne_eq, eq_self, beq_self_eq_true]
    simp only [hg2, T3, T4, T5, T9, T34, T37, e_seq, e_region, e_dyn, e_dynS, stepD, accs, accP, accW, simpleOp, isAl, isExt, List.flatten_cons, List.flatten_nil, e_block, e_cond, e_ret, e_skip, e_exit, e_plain, e_guard, e_nil, e_op, e_ifT, e_ifF, e_true, e_false, e_loop, e_l, e_top, e_seqN, e_seqE, e_seqR, e_blockN, e_blockR, e_blockE,
    e_finN, e_finX, e_finR, retV, resV, resL, outCL, outC, outL, outD, wantedV, opV, An.at_, prune, List.map_cons, List.map_nil, envOf, get, put, eval, ofV, nbeq, nble, binV, binV.aggV, unV, intV, eqOp, isConst, natV, optV, loadV, loadC, storeV, setC, St.at_, partV, indexAddrV, fieldAddrV, sliceV, sliceV.rowSl, sliceV.strSl, bounds, cutP,
    builtinV, lenV, maxL, maxV, appendV, St.elems, roomy, rowOf, rowS, isStr, esz, tdOf, convV, buildV, fillV, partsV, okParts, fillL, D.whole, D.demoteC, D.demote, demoteL, D.global, D.leaf, D.cells, TI.agg, TD.rowish, callOpV, CC, keepB, St.borrowL, St.borrow, D.isLsl, adoptR, adoptC, adoptCL, adoptL, adopt, upd,
    List.toArray, Array.toList, List.length_cons, List.length_nil, List.length_map, List.length_append, List.length_replicate, List.replicate_succ, List.replicate_zero, List.replicate_one, ← List.map_take, ← List.map_drop, List.drop_zero, List.take_succ_cons, List.take_zero, List.take_nil, List.drop_succ_cons, List.drop_nil, Nat.zero_le, Nat.le_refl, Nat.sub_zero, List.getElem?_cons_succ, List.getElem?_cons_zero, List.getElem?_nil, List.any_cons, List.any_nil, List.all_cons, List.all_nil, List.append_nil, List.nil_append, List.cons_append, List.set_cons_zero, List.set_cons_succ,
    cond_true, cond_false, decide_true, decide_false, Bool.true_and, Bool.and_true, Bool.false_and, Bool.and_false, Bool.true_or, Bool.or_true, Bool.false_or, Bool.or_false, Bool.not_true, Bool.not_false, Bool.and_self, Bool.or_self, bT, bF, ieq, ine, decide_eq_true_eq, decide_not,
    Nat.reduceEqDiff, Nat.reduceAdd, Nat.reduceSub, Nat.reduceMul, Nat.reduceLeDiff, Nat.reduceLT, Nat.zero_add, Nat.add_zero, Option.getD_some, Option.getD_none, Option.isSome_some, Option.isSome_none, reduceIte, reduceCtorEq, and_self, and_true, true_and, not_true_eq_false, not_false_eq_true, false_imp_iff, forall_const, imp_self,
    Int.reduceNeg, Int.reduceLT, Int.reduceLE, Int.reduceAdd, Int.reduceSub, Int.reduceMul, Int.reduceToNat, Int.reduceEq, ne_eq, eq_self, beq_self_eq_true]

end Go.Proofs.YtdmlojinmkcldaaDoor.V
