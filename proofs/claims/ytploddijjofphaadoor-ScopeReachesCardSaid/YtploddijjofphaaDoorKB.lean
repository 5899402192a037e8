/-
Layer 7: the span of a prefix.
-/
import Derived.Test.YtploddijjofphaaDoorKA
namespace Go.Proofs.YtploddijjofphaaDoor.V
open Go Go.RowKit
set_option linter.unusedSimpArgs false
set_option linter.unusedVariables false

/-! warren/keys.Of -/
def an26 : An := ⟨fun | 2 => some [0, 2, 3] | _ => .none, fun _ => 0, fun _ => false, fun _ => .none⟩
noncomputable def fi26 : FI := ⟨1, 29, Tryd.f26.body.getD .skip, Tryd.f26.results.toList, an26, false, false⟩
theorem ok26 : FnOk Tryd.prog 26 fi26 := ⟨⟨Tryd.f26, Tryd.func26, by kernel_rfl, rfl, rfl, rfl⟩, by decide, by kernel_rfl, fun h => by cases h⟩
noncomputable def lp26_0 : Code := subC [1, 0, 1, 0, 0] (Tryd.f26.body.getD .skip)   -- head 2 keep [0, 2, 3]
/-! warren/warrenref07.Of -/
def an62 : An := ⟨fun | 2 => some [0, 2, 3] | _ => .none, fun | 25 => 1 | _ => 0, fun _ => false, fun _ => .none⟩
noncomputable def fi62 : FI := ⟨1, 40, Tryd.f62.body.getD .skip, Tryd.f62.results.toList, an62, false, false⟩
theorem ok62 : FnOk Tryd.prog 62 fi62 := ⟨⟨Tryd.f62, Tryd.func62, by kernel_rfl, rfl, rfl, rfl⟩, by decide, by kernel_rfl, fun h => by cases h⟩
noncomputable def lp62_0 : Code := subC [1, 1, 0, 0, 0] (Tryd.f62.body.getD .skip)   -- head 2 keep [0, 2, 3]

/-- How many bytes stand ahead of the last ones that are the greatest. -/
def topN (l : List UInt8) : Nat → Nat
  | 0 => 0
  | n + 1 => if l[n]? = some 255 then topN l n else n + 1

def hiS (l : List UInt8) (n : Nat) : List UInt8 := l.take n ++ [l.getD n 0 + 1]

/-- The span of a prefix. -/
def ofS (l : List UInt8) : D :=
  match topN l l.length with
  | 0 => spD l [] true
  | m + 1 => spD l (hiS l m) false

theorem byte_up {c : UInt8} (h : c ≠ 255) : IntKind.u8.wrap ((c.toNat : Int) + 1) = ((c + 1).toNat : Int) := by
  have h1 : c.toNat < 255 := by
    have := c.toNat_lt
    have : c.toNat ≠ 255 := fun e => h (UInt8.toNat_inj.1 (by simpa using e))
    omega
  have h2 : (c + 1).toNat = c.toNat + 1 := by
    rw [UInt8.toNat_add]; simp; omega
  rw [h2]
  simp [IntKind.wrap, IntKind.bits, IntKind.signed]
  omega

def st26 (l : List UInt8) (B : Hp) (n : Nat) : St := ⟨[(0, .str l), (2, .lptr 0 0), (3, .int .i64 ((n : Int) - 1))], [some [.str [], .str [], .bool false]], [], B⟩

set_option maxRecDepth 10000 in
theorem body26_end (C : Callees) (l : List UInt8) (B : Hp) :
    ∃ ρ, go T an26 C lp26_0 .top (st26 l B 0) = some (.exit 0, ⟨ρ, [some [.str [], .str [], .bool false]], [], B⟩) ∧ get ρ 0 = .str l ∧ get ρ 2 = .lptr 0 0 := by
  have h : ¬ ((0 : Nat) : Int) - 1 ≥ 0 := by omega
  simp only [st26, lp26_0, subC, atC, Tryd.f26, an26, h, T3, T4, T5, T9, T38, T64, e_seq, e_region, e_dyn, e_dynS, stepD, accs, accP, accW, simpleOp, isAl, isExt, flipD, D.fresh1, D.row, D.plain, D.plain.plainL, St.close, St.close1, St.borrow, List.flatten_cons, List.flatten_nil, e_block, e_cond, e_ret, e_skip, e_exit, e_plain, e_guard, e_nil, e_op, e_ifT, e_ifF, e_true, e_false, e_loop, e_l, e_top, e_seqN, e_seqE, e_seqR, e_blockN, e_blockR, e_blockE,
    begin_f, begin_t, end_f, e_finN, e_finX, e_finR, retV, resV, resL, outCL, outC, outL, outD, wantedV, opV, An.mid, thawV, D.plainU, prune, List.map_cons, List.map_nil, envOf, get, put, eval, evalT, nz, argsV, capsV, ofV, nbeq, nble, binV, binV.aggV, unV, intV, eqOp, isConst, natV, optV, loadV, loadC, storeV, setC, St.at_, partV, partTy, indexAddrV, fieldAddrV, sliceV, sliceV.rowSl, sliceV.strSl, bounds, cutP,
    builtinV, lenV, maxL, maxV, appendV, St.elems, roomy, rowOf, rowS, isStr, esz, tdOf, convV, buildV, fillV, partsV, okParts, fillL, D.whole, D.demoteC, D.demote, demoteL, D.global, D.flat, D.leaf, D.cells, TI.agg, TD.rowish, callOpV, moveL, CC, keepB, St.borrowL, St.borrow, D.isLsl, adoptR, adoptC, adoptCL, adoptL, adopt,
    List.toArray, Array.toList, List.length_cons, List.length_nil, List.length_map, List.length_append, List.length_replicate, List.replicate_succ, List.replicate_zero, List.replicate_one, ← List.map_take, ← List.map_drop, List.isEmpty_cons, List.isEmpty_nil, List.drop_zero, List.take_succ_cons, List.take_zero, List.take_nil, List.drop_succ_cons, List.drop_nil, Nat.zero_le, Nat.le_refl, Nat.sub_zero, List.getElem?_cons_succ, List.getElem?_cons_zero, List.getElem?_nil, List.any_cons, List.any_nil, List.all_cons, List.all_nil, List.append_nil, List.nil_append, List.cons_append, List.set_cons_zero, List.set_cons_succ,
    cond_true, cond_false, decide_true, decide_false, Bool.true_and, Bool.and_true, Bool.false_and, Bool.and_false, Bool.true_or, Bool.or_true, Bool.false_or, Bool.or_false, Bool.not_true, Bool.not_false, Bool.and_self, Bool.or_self, bT, bF, ieq, ine, decide_eq_true_eq, decide_not,
    Nat.reduceEqDiff, Nat.reduceAdd, Nat.reduceSub, Nat.reduceMul, Nat.reduceLeDiff, Nat.reduceLT, Nat.zero_add, Nat.add_zero, Option.getD_some, Option.getD_none, Option.isSome_some, Option.isSome_none, reduceIte, reduceCtorEq, and_self, and_true, true_and, not_true_eq_false, not_false_eq_true, false_imp_iff, forall_const, imp_self,
    Int.reduceNeg, Int.reduceLT, Int.reduceLE, Int.reduceGT, Int.reduceGE, Int.reduceAdd, Int.reduceSub, Int.reduceMul, Int.reduceToNat, Int.reduceEq, ne_eq, eq_self, beq_self_eq_true]
  exact ⟨_, rfl, rfl, rfl⟩

set_option maxRecDepth 10000 in
theorem body26_ok (C : Callees) (l : List UInt8) (B : Hp) (n : Nat) (hn : l[n]? = some 255) (hl : l.length ≤ 1000000) :
    ∃ ρ, go T an26 C lp26_0 .top (st26 l B (n + 1)) = some (.norm, ⟨ρ, [some [.str [], .str [], .bool false]], [], B⟩) ∧ an26.at_ (some 2) ⟨ρ, [some [.str [], .str [], .bool false]], [], B⟩ = st26 l B n := by
  have hlt := (List.getElem?_eq_some_iff.1 hn).1
  have h1 : ((n + 1 : Nat) : Int) - 1 = n := by omega
  have h0 : (0 : Int) ≤ n := by omega
  have h2 : (n : Int) ≥ 0 := by omega
  have h3 := wrapI (x := (n : Int) - 1) (by omega) (by omega)
  have h4 : ((255 : UInt8).toNat : Int) = 255 := rfl
  simp only [st26, lp26_0, subC, atC, Tryd.f26, an26, h0, h1, h2, h3, h4, hn, byteD, Int.toNat_natCast, T3, T4, T5, T9, T38, T64, e_seq, e_region, e_dyn, e_dynS, stepD, accs, accP, accW, simpleOp, isAl, isExt, flipD, D.fresh1, D.row, D.plain, D.plain.plainL, St.close, St.close1, St.borrow, List.flatten_cons, List.flatten_nil, e_block, e_cond, e_ret, e_skip, e_exit, e_plain, e_guard, e_nil, e_op, e_ifT, e_ifF, e_true, e_false, e_loop, e_l, e_top, e_seqN, e_seqE, e_seqR, e_blockN, e_blockR, e_blockE,
    begin_f, begin_t, end_f, e_finN, e_finX, e_finR, retV, resV, resL, outCL, outC, outL, outD, wantedV, opV, An.mid, thawV, D.plainU, prune, List.map_cons, List.map_nil, envOf, get, put, eval, evalT, nz, argsV, capsV, ofV, nbeq, nble, binV, binV.aggV, unV, intV, eqOp, isConst, natV, optV, loadV, loadC, storeV, setC, St.at_, partV, partTy, indexAddrV, fieldAddrV, sliceV, sliceV.rowSl, sliceV.strSl, bounds, cutP,
    builtinV, lenV, maxL, maxV, appendV, St.elems, roomy, rowOf, rowS, isStr, esz, tdOf, convV, buildV, fillV, partsV, okParts, fillL, D.whole, D.demoteC, D.demote, demoteL, D.global, D.flat, D.leaf, D.cells, TI.agg, TD.rowish, callOpV, moveL, CC, keepB, St.borrowL, St.borrow, D.isLsl, adoptR, adoptC, adoptCL, adoptL, adopt,
    List.toArray, Array.toList, List.length_cons, List.length_nil, List.length_map, List.length_append, List.length_replicate, List.replicate_succ, List.replicate_zero, List.replicate_one, ← List.map_take, ← List.map_drop, List.isEmpty_cons, List.isEmpty_nil, List.drop_zero, List.take_succ_cons, List.take_zero, List.take_nil, List.drop_succ_cons, List.drop_nil, Nat.zero_le, Nat.le_refl, Nat.sub_zero, List.getElem?_cons_succ, List.getElem?_cons_zero, List.getElem?_nil, List.any_cons, List.any_nil, List.all_cons, List.all_nil, List.append_nil, List.nil_append, List.cons_append, List.set_cons_zero, List.set_cons_succ,
    cond_true, cond_false, decide_true, decide_false, Bool.true_and, Bool.and_true, Bool.false_and, Bool.and_false, Bool.true_or, Bool.or_true, Bool.false_or, Bool.or_false, Bool.not_true, Bool.not_false, Bool.and_self, Bool.or_self, bT, bF, ieq, ine, decide_eq_true_eq, decide_not,
    Nat.reduceEqDiff, Nat.reduceAdd, Nat.reduceSub, Nat.reduceMul, Nat.reduceLeDiff, Nat.reduceLT, Nat.zero_add, Nat.add_zero, Option.getD_some, Option.getD_none, Option.isSome_some, Option.isSome_none, reduceIte, reduceCtorEq, and_self, and_true, true_and, not_true_eq_false, not_false_eq_true, false_imp_iff, forall_const, imp_self,
    Int.reduceNeg, Int.reduceLT, Int.reduceLE, Int.reduceGT, Int.reduceGE, Int.reduceAdd, Int.reduceSub, Int.reduceMul, Int.reduceToNat, Int.reduceEq, ne_eq, eq_self, beq_self_eq_true]
  exact ⟨_, rfl, rfl⟩

set_option maxRecDepth 10000 in
theorem body26_hit (C : Callees) (l : List UInt8) (B : Hp) (n : Nat) (c : UInt8) (hn : l[n]? = some c) (hc : c ≠ 255) (hl : l.length ≤ 1000000) :
    ∃ ρ, go T an26 C lp26_0 .top (st26 l B (n + 1)) = some (.ret, ⟨ρ, [some [.str l, .str (hiS l n), .bool false]], [], B⟩) ∧ get ρ 2 = .lptr 0 0 := by
  have hlt := (List.getElem?_eq_some_iff.1 hn).1
  have h1 : ((n + 1 : Nat) : Int) - 1 = n := by omega
  have h0 : (0 : Int) ≤ n := by omega
  have h2 : (n : Int) ≥ 0 := by omega
  have h4 : ¬ (c.toNat : Int) = 255 := fun e => hc (UInt8.toNat_inj.1 (by simpa using (by omega : c.toNat = 255)))
  have h5 := byte_up hc
  have h6 : n ≤ l.length := by omega
  have h7 : hiS l n = l.take n ++ [c + 1] := by simp [hiS, hn]
  have h8 : bytesOf [D.int .u8 ((c + 1).toNat : Int)] = some [c + 1] := bytesOf_map [c + 1]
  have h9 : (List.take n l).length + 1 ≤ 9223372036854775807 := by simp; omega
  simp only [st26, lp26_0, subC, atC, Tryd.f26, an26, h0, h1, h2, h4, h5, h6, h7, h8, h9, hn, byteD, strV, Int.toNat_natCast, T3, T4, T5, T9, T38, T64, e_seq, e_region, e_dyn, e_dynS, stepD, accs, accP, accW, simpleOp, isAl, isExt, flipD, D.fresh1, D.row, D.plain, D.plain.plainL, St.close, St.close1, St.borrow, List.flatten_cons, List.flatten_nil, e_block, e_cond, e_ret, e_skip, e_exit, e_plain, e_guard, e_nil, e_op, e_ifT, e_ifF, e_true, e_false, e_loop, e_l, e_top, e_seqN, e_seqE, e_seqR, e_blockN, e_blockR, e_blockE,
    begin_f, begin_t, end_f, e_finN, e_finX, e_finR, retV, resV, resL, outCL, outC, outL, outD, wantedV, opV, An.mid, thawV, D.plainU, prune, List.map_cons, List.map_nil, envOf, get, put, eval, evalT, nz, argsV, capsV, ofV, nbeq, nble, binV, binV.aggV, unV, intV, eqOp, isConst, natV, optV, loadV, loadC, storeV, setC, St.at_, partV, partTy, indexAddrV, fieldAddrV, sliceV, sliceV.rowSl, sliceV.strSl, bounds, cutP,
    builtinV, lenV, maxL, maxV, appendV, St.elems, roomy, rowOf, rowS, isStr, esz, tdOf, convV, buildV, fillV, partsV, okParts, fillL, D.whole, D.demoteC, D.demote, demoteL, D.global, D.flat, D.leaf, D.cells, TI.agg, TD.rowish, callOpV, moveL, CC, keepB, St.borrowL, St.borrow, D.isLsl, adoptR, adoptC, adoptCL, adoptL, adopt,
    List.toArray, Array.toList, List.length_cons, List.length_nil, List.length_map, List.length_append, List.length_replicate, List.replicate_succ, List.replicate_zero, List.replicate_one, ← List.map_take, ← List.map_drop, List.isEmpty_cons, List.isEmpty_nil, List.drop_zero, List.take_succ_cons, List.take_zero, List.take_nil, List.drop_succ_cons, List.drop_nil, Nat.zero_le, Nat.le_refl, Nat.sub_zero, List.getElem?_cons_succ, List.getElem?_cons_zero, List.getElem?_nil, List.any_cons, List.any_nil, List.all_cons, List.all_nil, List.append_nil, List.nil_append, List.cons_append, List.set_cons_zero, List.set_cons_succ,
    cond_true, cond_false, decide_true, decide_false, Bool.true_and, Bool.and_true, Bool.false_and, Bool.and_false, Bool.true_or, Bool.or_true, Bool.false_or, Bool.or_false, Bool.not_true, Bool.not_false, Bool.and_self, Bool.or_self, bT, bF, ieq, ine, decide_eq_true_eq, decide_not,
    Nat.reduceEqDiff, Nat.reduceAdd, Nat.reduceSub, Nat.reduceMul, Nat.reduceLeDiff, Nat.reduceLT, Nat.zero_add, Nat.add_zero, Option.getD_some, Option.getD_none, Option.isSome_some, Option.isSome_none, reduceIte, reduceCtorEq, and_self, and_true, true_and, not_true_eq_false, not_false_eq_true, false_imp_iff, forall_const, imp_self,
    Int.reduceNeg, Int.reduceLT, Int.reduceLE, Int.reduceGT, Int.reduceGE, Int.reduceAdd, Int.reduceSub, Int.reduceMul, Int.reduceToNat, Int.reduceEq, ne_eq, eq_self, beq_self_eq_true]
  exact ⟨_, rfl, rfl⟩

theorem topN_hit {l : List UInt8} {n : Nat} (h : l[n]? ≠ some 255) : topN l (n + 1) = n + 1 := by simp [topN, h]
theorem topN_ok {l : List UInt8} {n : Nat} (h : l[n]? = some 255) : topN l (n + 1) = topN l n := by simp [topN, h]

theorem loop26 (C : Callees) (l : List UInt8) (B : Hp) (hl : l.length ≤ 1000000) : ∀ (n : Nat) (st : St), n ≤ l.length → an26.at_ (some 2) st = st26 l B n →
    ∃ x st', loopC T an26 C lp26_0 st = some (x, st') ∧ ∃ ρ, get ρ 2 = .lptr 0 0 ∧ ((x = .ret ∧ ∃ m, topN l n = m + 1 ∧ st' = ⟨ρ, [some [.str l, .str (hiS l m), .bool false]], [], B⟩) ∨
      (x = .exit 0 ∧ topN l n = 0 ∧ st' = ⟨ρ, [some [.str [], .str [], .bool false]], [], B⟩ ∧ get ρ 0 = .str l)) := by
  intro n
  induction n with
  | zero =>
    intro st hn hst
    obtain ⟨ρ, h, hg1, hg2⟩ := body26_end C l B
    exact ⟨_, _, loopC_done (by rw [show firstOf lp26_0 = some 2 from rfl, hst]; exact h) (by simp), ρ, hg2, .inr ⟨rfl, rfl, rfl, hg1⟩⟩
  | succ n ih =>
    intro st hn hst
    have hk := List.getElem?_eq_getElem (l := l) (i := n) (by omega)
    generalize l[n] = c at hk
    by_cases hc : c = 255
    · subst hc
      obtain ⟨ρ, h, hg⟩ := body26_ok C l B n hk hl
      obtain ⟨x, st', h4, ρ', h5, h6⟩ := ih _ (by omega) hg
      refine ⟨x, st', loopC_next (by rw [show firstOf lp26_0 = some 2 from rfl, hst]; exact h) h4, ρ', h5, ?_⟩
      rw [topN_ok hk]; exact h6
    · obtain ⟨ρ, h, hg⟩ := body26_hit C l B n c hk hc hl
      refine ⟨_, _, loopC_done (by rw [show firstOf lp26_0 = some 2 from rfl, hst]; exact h) (by simp), ρ, hg, .inl ⟨rfl, n, topN_hit (by rw [hk]; simpa using hc), rfl⟩⟩

set_option maxRecDepth 10000 in
theorem run26 (C : Callees) (l : List UInt8) (B : Hp) (hl : l.length ≤ 1000000) : runV T C fi26 [.str l] B = some (ofS l, B) := by
  have h1 := wrapI (x := (l.length : Int) - 1) (by omega) (by omega)
  rw [e_run _ _ _ rfl]
  simp only [fi26, Tryd.f26, an26, h1, T3, T4, T5, T9, T38, T64, e_seq, e_region, e_dyn, e_dynS, stepD, accs, accP, accW, simpleOp, isAl, isExt, flipD, D.fresh1, D.row, D.plain, D.plain.plainL, St.close, St.close1, St.borrow, List.flatten_cons, List.flatten_nil, e_block, e_cond, e_ret, e_skip, e_exit, e_plain, e_guard, e_nil, e_op, e_ifT, e_ifF, e_true, e_false, e_loop, e_l, e_top, e_seqN, e_seqE, e_seqR, e_blockN, e_blockR, e_blockE,
    begin_f, begin_t, end_f, e_finN, e_finX, e_finR, retV, resV, resL, outCL, outC, outL, outD, wantedV, opV, An.mid, thawV, D.plainU, prune, List.map_cons, List.map_nil, envOf, get, put, eval, evalT, nz, argsV, capsV, ofV, nbeq, nble, binV, binV.aggV, unV, intV, eqOp, isConst, natV, optV, loadV, loadC, storeV, setC, St.at_, partV, partTy, indexAddrV, fieldAddrV, sliceV, sliceV.rowSl, sliceV.strSl, bounds, cutP,
    builtinV, lenV, maxL, maxV, appendV, St.elems, roomy, rowOf, rowS, isStr, esz, tdOf, convV, buildV, fillV, partsV, okParts, fillL, D.whole, D.demoteC, D.demote, demoteL, D.global, D.flat, D.leaf, D.cells, TI.agg, TD.rowish, callOpV, moveL, CC, keepB, St.borrowL, St.borrow, D.isLsl, adoptR, adoptC, adoptCL, adoptL, adopt,
    List.toArray, Array.toList, List.length_cons, List.length_nil, List.length_map, List.length_append, List.length_replicate, List.replicate_succ, List.replicate_zero, List.replicate_one, ← List.map_take, ← List.map_drop, List.isEmpty_cons, List.isEmpty_nil, List.drop_zero, List.take_succ_cons, List.take_zero, List.take_nil, List.drop_succ_cons, List.drop_nil, Nat.zero_le, Nat.le_refl, Nat.sub_zero, List.getElem?_cons_succ, List.getElem?_cons_zero, List.getElem?_nil, List.any_cons, List.any_nil, List.all_cons, List.all_nil, List.append_nil, List.nil_append, List.cons_append, List.set_cons_zero, List.set_cons_succ,
    cond_true, cond_false, decide_true, decide_false, Bool.true_and, Bool.and_true, Bool.false_and, Bool.and_false, Bool.true_or, Bool.or_true, Bool.false_or, Bool.or_false, Bool.not_true, Bool.not_false, Bool.and_self, Bool.or_self, bT, bF, ieq, ine, decide_eq_true_eq, decide_not,
    Nat.reduceEqDiff, Nat.reduceAdd, Nat.reduceSub, Nat.reduceMul, Nat.reduceLeDiff, Nat.reduceLT, Nat.zero_add, Nat.add_zero, Option.getD_some, Option.getD_none, Option.isSome_some, Option.isSome_none, reduceIte, reduceCtorEq, and_self, and_true, true_and, not_true_eq_false, not_false_eq_true, false_imp_iff, forall_const, imp_self,
    Int.reduceNeg, Int.reduceLT, Int.reduceLE, Int.reduceGT, Int.reduceGE, Int.reduceAdd, Int.reduceSub, Int.reduceMul, Int.reduceToNat, Int.reduceEq, ne_eq, eq_self, beq_self_eq_true]
  refine' in_loop (c' := lp26_0) (fin T _ _ _) ?h rfl ?q
  case h => exact loop26 C l B hl l.length _ (by omega) rfl
  rintro x st' ⟨ρ, hg, ⟨rfl, m, hm, rfl⟩ | ⟨rfl, hm, rfl, hg1⟩⟩
  · simp only [hg, ofS, hm, T3, T4, T5, T9, T38, T64, e_seq, e_region, e_dyn, e_dynS, stepD, accs, accP, accW, simpleOp, isAl, isExt, flipD, D.fresh1, D.row, D.plain, D.plain.plainL, St.close, St.close1, St.borrow, List.flatten_cons, List.flatten_nil, e_block, e_cond, e_ret, e_skip, e_exit, e_plain, e_guard, e_nil, e_op, e_ifT, e_ifF, e_true, e_false, e_loop, e_l, e_top, e_seqN, e_seqE, e_seqR, e_blockN, e_blockR, e_blockE,
    begin_f, begin_t, end_f, e_finN, e_finX, e_finR, retV, resV, resL, outCL, outC, outL, outD, wantedV, opV, An.mid, thawV, D.plainU, prune, List.map_cons, List.map_nil, envOf, get, put, eval, evalT, nz, argsV, capsV, ofV, nbeq, nble, binV, binV.aggV, unV, intV, eqOp, isConst, natV, optV, loadV, loadC, storeV, setC, St.at_, partV, partTy, indexAddrV, fieldAddrV, sliceV, sliceV.rowSl, sliceV.strSl, bounds, cutP,
    builtinV, lenV, maxL, maxV, appendV, St.elems, roomy, rowOf, rowS, isStr, esz, tdOf, convV, buildV, fillV, partsV, okParts, fillL, D.whole, D.demoteC, D.demote, demoteL, D.global, D.flat, D.leaf, D.cells, TI.agg, TD.rowish, callOpV, moveL, CC, keepB, St.borrowL, St.borrow, D.isLsl, adoptR, adoptC, adoptCL, adoptL, adopt,
    List.toArray, Array.toList, List.length_cons, List.length_nil, List.length_map, List.length_append, List.length_replicate, List.replicate_succ, List.replicate_zero, List.replicate_one, ← List.map_take, ← List.map_drop, List.isEmpty_cons, List.isEmpty_nil, List.drop_zero, List.take_succ_cons, List.take_zero, List.take_nil, List.drop_succ_cons, List.drop_nil, Nat.zero_le, Nat.le_refl, Nat.sub_zero, List.getElem?_cons_succ, List.getElem?_cons_zero, List.getElem?_nil, List.any_cons, List.any_nil, List.all_cons, List.all_nil, List.append_nil, List.nil_append, List.cons_append, List.set_cons_zero, List.set_cons_succ,
    cond_true, cond_false, decide_true, decide_false, Bool.true_and, Bool.and_true, Bool.false_and, Bool.and_false, Bool.true_or, Bool.or_true, Bool.false_or, Bool.or_false, Bool.not_true, Bool.not_false, Bool.and_self, Bool.or_self, bT, bF, ieq, ine, decide_eq_true_eq, decide_not,
    Nat.reduceEqDiff, Nat.reduceAdd, Nat.reduceSub, Nat.reduceMul, Nat.reduceLeDiff, Nat.reduceLT, Nat.zero_add, Nat.add_zero, Option.getD_some, Option.getD_none, Option.isSome_some, Option.isSome_none, reduceIte, reduceCtorEq, and_self, and_true, true_and, not_true_eq_false, not_false_eq_true, false_imp_iff, forall_const, imp_self,
    Int.reduceNeg, Int.reduceLT, Int.reduceLE, Int.reduceGT, Int.reduceGE, Int.reduceAdd, Int.reduceSub, Int.reduceMul, Int.reduceToNat, Int.reduceEq, ne_eq, eq_self, beq_self_eq_true]
  · simp only [hg, hg1, ofS, hm, T3, T4, T5, T9, T38, T64, e_seq, e_region, e_dyn, e_dynS, stepD, accs, accP, accW, simpleOp, isAl, isExt, flipD, D.fresh1, D.row, D.plain, D.plain.plainL, St.close, St.close1, St.borrow, List.flatten_cons, List.flatten_nil, e_block, e_cond, e_ret, e_skip, e_exit, e_plain, e_guard, e_nil, e_op, e_ifT, e_ifF, e_true, e_false, e_loop, e_l, e_top, e_seqN, e_seqE, e_seqR, e_blockN, e_blockR, e_blockE,
    begin_f, begin_t, end_f, e_finN, e_finX, e_finR, retV, resV, resL, outCL, outC, outL, outD, wantedV, opV, An.mid, thawV, D.plainU, prune, List.map_cons, List.map_nil, envOf, get, put, eval, evalT, nz, argsV, capsV, ofV, nbeq, nble, binV, binV.aggV, unV, intV, eqOp, isConst, natV, optV, loadV, loadC, storeV, setC, St.at_, partV, partTy, indexAddrV, fieldAddrV, sliceV, sliceV.rowSl, sliceV.strSl, bounds, cutP,
    builtinV, lenV, maxL, maxV, appendV, St.elems, roomy, rowOf, rowS, isStr, esz, tdOf, convV, buildV, fillV, partsV, okParts, fillL, D.whole, D.demoteC, D.demote, demoteL, D.global, D.flat, D.leaf, D.cells, TI.agg, TD.rowish, callOpV, moveL, CC, keepB, St.borrowL, St.borrow, D.isLsl, adoptR, adoptC, adoptCL, adoptL, adopt,
    List.toArray, Array.toList, List.length_cons, List.length_nil, List.length_map, List.length_append, List.length_replicate, List.replicate_succ, List.replicate_zero, List.replicate_one, ← List.map_take, ← List.map_drop, List.isEmpty_cons, List.isEmpty_nil, List.drop_zero, List.take_succ_cons, List.take_zero, List.take_nil, List.drop_succ_cons, List.drop_nil, Nat.zero_le, Nat.le_refl, Nat.sub_zero, List.getElem?_cons_succ, List.getElem?_cons_zero, List.getElem?_nil, List.any_cons, List.any_nil, List.all_cons, List.all_nil, List.append_nil, List.nil_append, List.cons_append, List.set_cons_zero, List.set_cons_succ,
    cond_true, cond_false, decide_true, decide_false, Bool.true_and, Bool.and_true, Bool.false_and, Bool.and_false, Bool.true_or, Bool.or_true, Bool.false_or, Bool.or_false, Bool.not_true, Bool.not_false, Bool.and_self, Bool.or_self, bT, bF, ieq, ine, decide_eq_true_eq, decide_not,
    Nat.reduceEqDiff, Nat.reduceAdd, Nat.reduceSub, Nat.reduceMul, Nat.reduceLeDiff, Nat.reduceLT, Nat.zero_add, Nat.add_zero, Option.getD_some, Option.getD_none, Option.isSome_some, Option.isSome_none, reduceIte, reduceCtorEq, and_self, and_true, true_and, not_true_eq_false, not_false_eq_true, false_imp_iff, forall_const, imp_self,
    Int.reduceNeg, Int.reduceLT, Int.reduceLE, Int.reduceGT, Int.reduceGE, Int.reduceAdd, Int.reduceSub, Int.reduceMul, Int.reduceToNat, Int.reduceEq, ne_eq, eq_self, beq_self_eq_true]

/-! ### The document's -/
def st62 (l : List UInt8) (B : Hp) (n : Nat) : St := ⟨[(0, .str l), (2, .lptr 0 0), (3, .int .i64 n)], [some [.str [], .str [], .bool false]], [], B⟩

set_option maxRecDepth 10000 in
theorem body62_end (C : Callees) (l : List UInt8) (B : Hp) (n : Nat) (hn : n ≤ l.length) (hl : l.length ≤ 1000000) (h : topN l n = n) :
    ∃ ρ, go T an62 C lp62_0 .top (st62 l B n) = some (.exit 0, ⟨ρ, [some [.str [], .str [], .bool false]], [], B⟩) ∧ get ρ 0 = .str l ∧ get ρ 2 = .lptr 0 0 ∧ get ρ 3 = .int .i64 n := by
  cases n with
  | zero =>
    simp only [st62, lp62_0, subC, atC, Tryd.f62, an62, Int.natCast_zero, gt_iff_lt, Int.lt_irrefl, T3, T4, T5, T9, T28, T64, e_seq, e_region, e_dyn, e_dynS, stepD, accs, accP, accW, simpleOp, isAl, isExt, flipD, D.fresh1, D.row, D.plain, D.plain.plainL, St.close, St.close1, St.borrow, List.flatten_cons, List.flatten_nil, e_block, e_cond, e_ret, e_skip, e_exit, e_plain, e_guard, e_nil, e_op, e_ifT, e_ifF, e_true, e_false, e_loop, e_l, e_top, e_seqN, e_seqE, e_seqR, e_blockN, e_blockR, e_blockE,
    begin_f, begin_t, end_f, e_finN, e_finX, e_finR, retV, resV, resL, outCL, outC, outL, outD, wantedV, opV, An.mid, thawV, D.plainU, prune, List.map_cons, List.map_nil, envOf, get, put, eval, evalT, nz, argsV, capsV, ofV, nbeq, nble, binV, binV.aggV, unV, intV, eqOp, isConst, natV, optV, loadV, loadC, storeV, setC, St.at_, partV, partTy, indexAddrV, fieldAddrV, sliceV, sliceV.rowSl, sliceV.strSl, bounds, cutP,
    builtinV, lenV, maxL, maxV, appendV, St.elems, roomy, rowOf, rowS, isStr, esz, tdOf, convV, buildV, fillV, partsV, okParts, fillL, D.whole, D.demoteC, D.demote, demoteL, D.global, D.flat, D.leaf, D.cells, TI.agg, TD.rowish, callOpV, moveL, CC, keepB, St.borrowL, St.borrow, D.isLsl, adoptR, adoptC, adoptCL, adoptL, adopt,
    List.toArray, Array.toList, List.length_cons, List.length_nil, List.length_map, List.length_append, List.length_replicate, List.replicate_succ, List.replicate_zero, List.replicate_one, ← List.map_take, ← List.map_drop, List.isEmpty_cons, List.isEmpty_nil, List.drop_zero, List.take_succ_cons, List.take_zero, List.take_nil, List.drop_succ_cons, List.drop_nil, Nat.zero_le, Nat.le_refl, Nat.sub_zero, List.getElem?_cons_succ, List.getElem?_cons_zero, List.getElem?_nil, List.any_cons, List.any_nil, List.all_cons, List.all_nil, List.append_nil, List.nil_append, List.cons_append, List.set_cons_zero, List.set_cons_succ,
    cond_true, cond_false, decide_true, decide_false, Bool.true_and, Bool.and_true, Bool.false_and, Bool.and_false, Bool.true_or, Bool.or_true, Bool.false_or, Bool.or_false, Bool.not_true, Bool.not_false, Bool.and_self, Bool.or_self, bT, bF, ieq, ine, decide_eq_true_eq, decide_not,
    Nat.reduceEqDiff, Nat.reduceAdd, Nat.reduceSub, Nat.reduceMul, Nat.reduceLeDiff, Nat.reduceLT, Nat.zero_add, Nat.add_zero, Option.getD_some, Option.getD_none, Option.isSome_some, Option.isSome_none, reduceIte, reduceCtorEq, and_self, and_true, true_and, not_true_eq_false, not_false_eq_true, false_imp_iff, forall_const, imp_self,
    Int.reduceNeg, Int.reduceLT, Int.reduceLE, Int.reduceGT, Int.reduceGE, Int.reduceAdd, Int.reduceSub, Int.reduceMul, Int.reduceToNat, Int.reduceEq, ne_eq, eq_self, beq_self_eq_true]
    exact ⟨_, rfl, rfl, rfl, rfl⟩
  | succ n =>
    have hk := List.getElem?_eq_getElem (l := l) (i := n) (by omega)
    generalize l[n] = c at hk
    have hc : c ≠ 255 := fun e => by
      rw [e] at hk
      rw [topN_ok hk] at h
      have : ∀ m, topN l m ≤ m := fun m => by
        induction m with
        | zero => simp [topN]
        | succ m ih => simp only [topN]; split <;> omega
      have := this n
      omega
    have h0 : (0 : Int) ≤ n := by omega
    have h1 := wrapI (x := ((n + 1 : Nat) : Int) - 1) (by omega) (by omega)
    have h1' : ((n + 1 : Nat) : Int) - 1 = n := by omega
    have h2 : ((n + 1 : Nat) : Int) > 0 := by omega
    have h4 : ¬ (c.toNat : Int) = 255 := fun e => hc (UInt8.toNat_inj.1 (by simpa using (by omega : c.toNat = 255)))
    rw [h1'] at h1
    simp only [st62, lp62_0, subC, atC, Tryd.f62, an62, h0, h1, h1', h2, h4, hk, byteD, Int.toNat_natCast, T3, T4, T5, T9, T28, T64, e_seq, e_region, e_dyn, e_dynS, stepD, accs, accP, accW, simpleOp, isAl, isExt, flipD, D.fresh1, D.row, D.plain, D.plain.plainL, St.close, St.close1, St.borrow, List.flatten_cons, List.flatten_nil, e_block, e_cond, e_ret, e_skip, e_exit, e_plain, e_guard, e_nil, e_op, e_ifT, e_ifF, e_true, e_false, e_loop, e_l, e_top, e_seqN, e_seqE, e_seqR, e_blockN, e_blockR, e_blockE,
    begin_f, begin_t, end_f, e_finN, e_finX, e_finR, retV, resV, resL, outCL, outC, outL, outD, wantedV, opV, An.mid, thawV, D.plainU, prune, List.map_cons, List.map_nil, envOf, get, put, eval, evalT, nz, argsV, capsV, ofV, nbeq, nble, binV, binV.aggV, unV, intV, eqOp, isConst, natV, optV, loadV, loadC, storeV, setC, St.at_, partV, partTy, indexAddrV, fieldAddrV, sliceV, sliceV.rowSl, sliceV.strSl, bounds, cutP,
    builtinV, lenV, maxL, maxV, appendV, St.elems, roomy, rowOf, rowS, isStr, esz, tdOf, convV, buildV, fillV, partsV, okParts, fillL, D.whole, D.demoteC, D.demote, demoteL, D.global, D.flat, D.leaf, D.cells, TI.agg, TD.rowish, callOpV, moveL, CC, keepB, St.borrowL, St.borrow, D.isLsl, adoptR, adoptC, adoptCL, adoptL, adopt,
    List.toArray, Array.toList, List.length_cons, List.length_nil, List.length_map, List.length_append, List.length_replicate, List.replicate_succ, List.replicate_zero, List.replicate_one, ← List.map_take, ← List.map_drop, List.isEmpty_cons, List.isEmpty_nil, List.drop_zero, List.take_succ_cons, List.take_zero, List.take_nil, List.drop_succ_cons, List.drop_nil, Nat.zero_le, Nat.le_refl, Nat.sub_zero, List.getElem?_cons_succ, List.getElem?_cons_zero, List.getElem?_nil, List.any_cons, List.any_nil, List.all_cons, List.all_nil, List.append_nil, List.nil_append, List.cons_append, List.set_cons_zero, List.set_cons_succ,
    cond_true, cond_false, decide_true, decide_false, Bool.true_and, Bool.and_true, Bool.false_and, Bool.and_false, Bool.true_or, Bool.or_true, Bool.false_or, Bool.or_false, Bool.not_true, Bool.not_false, Bool.and_self, Bool.or_self, bT, bF, ieq, ine, decide_eq_true_eq, decide_not,
    Nat.reduceEqDiff, Nat.reduceAdd, Nat.reduceSub, Nat.reduceMul, Nat.reduceLeDiff, Nat.reduceLT, Nat.zero_add, Nat.add_zero, Option.getD_some, Option.getD_none, Option.isSome_some, Option.isSome_none, reduceIte, reduceCtorEq, and_self, and_true, true_and, not_true_eq_false, not_false_eq_true, false_imp_iff, forall_const, imp_self,
    Int.reduceNeg, Int.reduceLT, Int.reduceLE, Int.reduceGT, Int.reduceGE, Int.reduceAdd, Int.reduceSub, Int.reduceMul, Int.reduceToNat, Int.reduceEq, ne_eq, eq_self, beq_self_eq_true]
    exact ⟨_, rfl, rfl, rfl, rfl⟩

set_option maxRecDepth 10000 in
theorem body62_ok (C : Callees) (l : List UInt8) (B : Hp) (n : Nat) (hn : l[n]? = some 255) (hl : l.length ≤ 1000000) :
    ∃ ρ, go T an62 C lp62_0 .top (st62 l B (n + 1)) = some (.norm, ⟨ρ, [some [.str [], .str [], .bool false]], [], B⟩) ∧ an62.at_ (some 2) ⟨ρ, [some [.str [], .str [], .bool false]], [], B⟩ = st62 l B n := by
  have hlt := (List.getElem?_eq_some_iff.1 hn).1
  have h0 : (0 : Int) ≤ n := by omega
  have h1 := wrapI (x := ((n + 1 : Nat) : Int) - 1) (by omega) (by omega)
  have h1' : ((n + 1 : Nat) : Int) - 1 = n := by omega
  have h2 : ((n + 1 : Nat) : Int) > 0 := by omega
  have h4 : ((255 : UInt8).toNat : Int) = 255 := rfl
  rw [h1'] at h1
  simp only [st62, lp62_0, subC, atC, Tryd.f62, an62, h0, h1, h1', h2, h4, hn, byteD, Int.toNat_natCast, T3, T4, T5, T9, T28, T64, e_seq, e_region, e_dyn, e_dynS, stepD, accs, accP, accW, simpleOp, isAl, isExt, flipD, D.fresh1, D.row, D.plain, D.plain.plainL, St.close, St.close1, St.borrow, List.flatten_cons, List.flatten_nil, e_block, e_cond, e_ret, e_skip, e_exit, e_plain, e_guard, e_nil, e_op, e_ifT, e_ifF, e_true, e_false, e_loop, e_l, e_top, e_seqN, e_seqE, e_seqR, e_blockN, e_blockR, e_blockE,
    begin_f, begin_t, end_f, e_finN, e_finX, e_finR, retV, resV, resL, outCL, outC, outL, outD, wantedV, opV, An.mid, thawV, D.plainU, prune, List.map_cons, List.map_nil, envOf, get, put, eval, evalT, nz, argsV, capsV, ofV, nbeq, nble, binV, binV.aggV, unV, intV, eqOp, isConst, natV, optV, loadV, loadC, storeV, setC, St.at_, partV, partTy, indexAddrV, fieldAddrV, sliceV, sliceV.rowSl, sliceV.strSl, bounds, cutP,
    builtinV, lenV, maxL, maxV, appendV, St.elems, roomy, rowOf, rowS, isStr, esz, tdOf, convV, buildV, fillV, partsV, okParts, fillL, D.whole, D.demoteC, D.demote, demoteL, D.global, D.flat, D.leaf, D.cells, TI.agg, TD.rowish, callOpV, moveL, CC, keepB, St.borrowL, St.borrow, D.isLsl, adoptR, adoptC, adoptCL, adoptL, adopt,
    List.toArray, Array.toList, List.length_cons, List.length_nil, List.length_map, List.length_append, List.length_replicate, List.replicate_succ, List.replicate_zero, List.replicate_one, ← List.map_take, ← List.map_drop, List.isEmpty_cons, List.isEmpty_nil, List.drop_zero, List.take_succ_cons, List.take_zero, List.take_nil, List.drop_succ_cons, List.drop_nil, Nat.zero_le, Nat.le_refl, Nat.sub_zero, List.getElem?_cons_succ, List.getElem?_cons_zero, List.getElem?_nil, List.any_cons, List.any_nil, List.all_cons, List.all_nil, List.append_nil, List.nil_append, List.cons_append, List.set_cons_zero, List.set_cons_succ,
    cond_true, cond_false, decide_true, decide_false, Bool.true_and, Bool.and_true, Bool.false_and, Bool.and_false, Bool.true_or, Bool.or_true, Bool.false_or, Bool.or_false, Bool.not_true, Bool.not_false, Bool.and_self, Bool.or_self, bT, bF, ieq, ine, decide_eq_true_eq, decide_not,
    Nat.reduceEqDiff, Nat.reduceAdd, Nat.reduceSub, Nat.reduceMul, Nat.reduceLeDiff, Nat.reduceLT, Nat.zero_add, Nat.add_zero, Option.getD_some, Option.getD_none, Option.isSome_some, Option.isSome_none, reduceIte, reduceCtorEq, and_self, and_true, true_and, not_true_eq_false, not_false_eq_true, false_imp_iff, forall_const, imp_self,
    Int.reduceNeg, Int.reduceLT, Int.reduceLE, Int.reduceGT, Int.reduceGE, Int.reduceAdd, Int.reduceSub, Int.reduceMul, Int.reduceToNat, Int.reduceEq, ne_eq, eq_self, beq_self_eq_true]
  exact ⟨_, rfl, rfl⟩

theorem topN_self (l : List UInt8) : ∀ n, topN l (topN l n) = topN l n
  | 0 => rfl
  | n + 1 => by
    by_cases h : l[n]? = some 255
    · rw [topN_ok h]; exact topN_self l n
    · rw [topN_hit h, topN_hit h]

theorem topN_le (l : List UInt8) : ∀ m, topN l m ≤ m
  | 0 => Nat.le_refl _
  | m + 1 => by
    have := topN_le l m
    simp only [topN]; split <;> omega

theorem loop62 (C : Callees) (l : List UInt8) (B : Hp) (hl : l.length ≤ 1000000) : ∀ (n : Nat) (st : St), n ≤ l.length → an62.at_ (some 2) st = st62 l B n →
    ∃ x st', loopC T an62 C lp62_0 st = some (x, st') ∧ ∃ ρ, x = .exit 0 ∧ st' = ⟨ρ, [some [.str [], .str [], .bool false]], [], B⟩ ∧ get ρ 0 = .str l ∧ get ρ 2 = .lptr 0 0 ∧ get ρ 3 = .int .i64 (topN l n : Nat) := by
  intro n
  induction n with
  | zero =>
    intro st hn hst
    obtain ⟨ρ, h, hg1, hg2, hg3⟩ := body62_end C l B 0 (by omega) hl rfl
    exact ⟨_, _, loopC_done (by rw [show firstOf lp62_0 = some 2 from rfl, hst]; exact h) (by simp), ρ, rfl, rfl, hg1, hg2, hg3⟩
  | succ n ih =>
    intro st hn hst
    by_cases hc : l[n]? = some 255
    · obtain ⟨ρ, h, hg⟩ := body62_ok C l B n hc hl
      obtain ⟨x, st', h4, h5⟩ := ih _ (by omega) hg
      refine ⟨x, st', loopC_next (by rw [show firstOf lp62_0 = some 2 from rfl, hst]; exact h) h4, ?_⟩
      rw [topN_ok hc]; exact h5
    · obtain ⟨ρ, h, hg1, hg2, hg3⟩ := body62_end C l B (n + 1) hn hl (topN_hit hc)
      refine ⟨_, _, loopC_done (by rw [show firstOf lp62_0 = some 2 from rfl, hst]; exact h) (by simp), ρ, rfl, rfl, hg1, hg2, ?_⟩
      rw [topN_hit hc]; exact hg3

theorem all_byte (p : D → Bool) (hp : ∀ b, p (byteD b) = true) (l : List UInt8) : (l.map byteD).all p = true := by
  rw [List.all_eq_true]
  intro x hx
  obtain ⟨b, _, rfl⟩ := List.mem_map.1 hx
  exact hp b

set_option maxRecDepth 10000 in
theorem run62 (C : Callees) (l : List UInt8) (B : Hp) (hl : l.length ≤ 1000000) : runV T C fi62 [.str l] B = some (ofS l, B) := by
  rw [e_run _ _ _ rfl]
  simp only [fi62, Tryd.f62, an62, T3, T4, T5, T9, T28, T64, e_seq, e_region, e_dyn, e_dynS, stepD, accs, accP, accW, simpleOp, isAl, isExt, flipD, D.fresh1, D.row, D.plain, D.plain.plainL, St.close, St.close1, St.borrow, List.flatten_cons, List.flatten_nil, e_block, e_cond, e_ret, e_skip, e_exit, e_plain, e_guard, e_nil, e_op, e_ifT, e_ifF, e_true, e_false, e_loop, e_l, e_top, e_seqN, e_seqE, e_seqR, e_blockN, e_blockR, e_blockE,
    begin_f, begin_t, end_f, e_finN, e_finX, e_finR, retV, resV, resL, outCL, outC, outL, outD, wantedV, opV, An.mid, thawV, D.plainU, prune, List.map_cons, List.map_nil, envOf, get, put, eval, evalT, nz, argsV, capsV, ofV, nbeq, nble, binV, binV.aggV, unV, intV, eqOp, isConst, natV, optV, loadV, loadC, storeV, setC, St.at_, partV, partTy, indexAddrV, fieldAddrV, sliceV, sliceV.rowSl, sliceV.strSl, bounds, cutP,
    builtinV, lenV, maxL, maxV, appendV, St.elems, roomy, rowOf, rowS, isStr, esz, tdOf, convV, buildV, fillV, partsV, okParts, fillL, D.whole, D.demoteC, D.demote, demoteL, D.global, D.flat, D.leaf, D.cells, TI.agg, TD.rowish, callOpV, moveL, CC, keepB, St.borrowL, St.borrow, D.isLsl, adoptR, adoptC, adoptCL, adoptL, adopt,
    List.toArray, Array.toList, List.length_cons, List.length_nil, List.length_map, List.length_append, List.length_replicate, List.replicate_succ, List.replicate_zero, List.replicate_one, ← List.map_take, ← List.map_drop, List.isEmpty_cons, List.isEmpty_nil, List.drop_zero, List.take_succ_cons, List.take_zero, List.take_nil, List.drop_succ_cons, List.drop_nil, Nat.zero_le, Nat.le_refl, Nat.sub_zero, List.getElem?_cons_succ, List.getElem?_cons_zero, List.getElem?_nil, List.any_cons, List.any_nil, List.all_cons, List.all_nil, List.append_nil, List.nil_append, List.cons_append, List.set_cons_zero, List.set_cons_succ,
    cond_true, cond_false, decide_true, decide_false, Bool.true_and, Bool.and_true, Bool.false_and, Bool.and_false, Bool.true_or, Bool.or_true, Bool.false_or, Bool.or_false, Bool.not_true, Bool.not_false, Bool.and_self, Bool.or_self, bT, bF, ieq, ine, decide_eq_true_eq, decide_not,
    Nat.reduceEqDiff, Nat.reduceAdd, Nat.reduceSub, Nat.reduceMul, Nat.reduceLeDiff, Nat.reduceLT, Nat.zero_add, Nat.add_zero, Option.getD_some, Option.getD_none, Option.isSome_some, Option.isSome_none, reduceIte, reduceCtorEq, and_self, and_true, true_and, not_true_eq_false, not_false_eq_true, false_imp_iff, forall_const, imp_self,
    Int.reduceNeg, Int.reduceLT, Int.reduceLE, Int.reduceGT, Int.reduceGE, Int.reduceAdd, Int.reduceSub, Int.reduceMul, Int.reduceToNat, Int.reduceEq, ne_eq, eq_self, beq_self_eq_true]
  refine' in_loop (c' := lp62_0) (fin T _ _ _) ?h rfl ?q
  case h => exact loop62 C l B hl l.length _ (by omega) rfl
  rintro x st' ⟨ρ, rfl, rfl, hg1, hg2, hg3⟩
  have hle := topN_le l l.length
  have hself := topN_self l l.length
  cases hm : topN l l.length with
  | zero =>
    rw [hm] at hg3
    simp only [hg1, hg2, hg3, ofS, hm, Int.natCast_zero, T3, T4, T5, T9, T28, T64, e_seq, e_region, e_dyn, e_dynS, stepD, accs, accP, accW, simpleOp, isAl, isExt, flipD, D.fresh1, D.row, D.plain, D.plain.plainL, St.close, St.close1, St.borrow, List.flatten_cons, List.flatten_nil, e_block, e_cond, e_ret, e_skip, e_exit, e_plain, e_guard, e_nil, e_op, e_ifT, e_ifF, e_true, e_false, e_loop, e_l, e_top, e_seqN, e_seqE, e_seqR, e_blockN, e_blockR, e_blockE,
    begin_f, begin_t, end_f, e_finN, e_finX, e_finR, retV, resV, resL, outCL, outC, outL, outD, wantedV, opV, An.mid, thawV, D.plainU, prune, List.map_cons, List.map_nil, envOf, get, put, eval, evalT, nz, argsV, capsV, ofV, nbeq, nble, binV, binV.aggV, unV, intV, eqOp, isConst, natV, optV, loadV, loadC, storeV, setC, St.at_, partV, partTy, indexAddrV, fieldAddrV, sliceV, sliceV.rowSl, sliceV.strSl, bounds, cutP,
    builtinV, lenV, maxL, maxV, appendV, St.elems, roomy, rowOf, rowS, isStr, esz, tdOf, convV, buildV, fillV, partsV, okParts, fillL, D.whole, D.demoteC, D.demote, demoteL, D.global, D.flat, D.leaf, D.cells, TI.agg, TD.rowish, callOpV, moveL, CC, keepB, St.borrowL, St.borrow, D.isLsl, adoptR, adoptC, adoptCL, adoptL, adopt,
    List.toArray, Array.toList, List.length_cons, List.length_nil, List.length_map, List.length_append, List.length_replicate, List.replicate_succ, List.replicate_zero, List.replicate_one, ← List.map_take, ← List.map_drop, List.isEmpty_cons, List.isEmpty_nil, List.drop_zero, List.take_succ_cons, List.take_zero, List.take_nil, List.drop_succ_cons, List.drop_nil, Nat.zero_le, Nat.le_refl, Nat.sub_zero, List.getElem?_cons_succ, List.getElem?_cons_zero, List.getElem?_nil, List.any_cons, List.any_nil, List.all_cons, List.all_nil, List.append_nil, List.nil_append, List.cons_append, List.set_cons_zero, List.set_cons_succ,
    cond_true, cond_false, decide_true, decide_false, Bool.true_and, Bool.and_true, Bool.false_and, Bool.and_false, Bool.true_or, Bool.or_true, Bool.false_or, Bool.or_false, Bool.not_true, Bool.not_false, Bool.and_self, Bool.or_self, bT, bF, ieq, ine, decide_eq_true_eq, decide_not,
    Nat.reduceEqDiff, Nat.reduceAdd, Nat.reduceSub, Nat.reduceMul, Nat.reduceLeDiff, Nat.reduceLT, Nat.zero_add, Nat.add_zero, Option.getD_some, Option.getD_none, Option.isSome_some, Option.isSome_none, reduceIte, reduceCtorEq, and_self, and_true, true_and, not_true_eq_false, not_false_eq_true, false_imp_iff, forall_const, imp_self,
    Int.reduceNeg, Int.reduceLT, Int.reduceLE, Int.reduceGT, Int.reduceGE, Int.reduceAdd, Int.reduceSub, Int.reduceMul, Int.reduceToNat, Int.reduceEq, ne_eq, eq_self, beq_self_eq_true]
  | succ m =>
    rw [hm] at hg3 hle hself
    have hk := List.getElem?_eq_getElem (l := l) (i := m) (by omega)
    generalize l[m] = c at hk
    have hc : c ≠ 255 := fun e => by
      rw [e] at hk
      rw [topN_ok hk] at hself
      have := topN_le l m
      omega
    have h0 : (0 : Int) ≤ m := by omega
    have h0' : (0 : Int) ≤ ((m + 1 : Nat) : Int) := by omega
    have h1 := wrapI (x := ((m + 1 : Nat) : Int) - 1) (by omega) (by omega)
    have h1' : ((m + 1 : Nat) : Int) - 1 = m := by omega
    have h2 : ¬ ((m + 1 : Nat) : Int) = 0 := by omega
    rw [h1'] at h1
    have h5 := byte_up hc
    have h7 : hiS l m = l.take m ++ [c + 1] := by simp [hiS, hk]
    have q0 : l.take (m + 1) = l.take m ++ [c] := by rw [List.take_add_one, hk]; rfl
    have q1 : (l.take (m + 1)).length = m + 1 := by simp; omega
    have q2 : (l.take (m + 1))[m]? = some c := by rw [List.getElem?_take_of_lt (by omega)]; exact hk
    have q3 : setC ((l.take (m + 1)).map byteD) m [.int .u8 ((c + 1).toNat : Int)] = (l.take m ++ [c + 1]).map byteD := by
      have : (l.take m).length = m := by simp; omega
      unfold setC
      rw [q0, List.map_append, List.take_append_of_le_length (by rw [List.length_map]; omega), List.take_of_length_le (by rw [List.length_map]; omega), List.drop_eq_nil_of_le (by simp only [List.length_append, List.length_map, List.length_cons, List.length_nil]; omega), List.append_nil, List.map_append]
      rfl
    have q4 : (l.take m ++ [c + 1]).length = m + 1 := by simp; omega
    have q5 : ((l.take m ++ [c + 1]).map byteD).all D.global = true := all_byte _ (fun _ => rfl) _
    have q6 := bytesOf_map (l.take m ++ [c + 1])
    have q7 : List.take (m + 1) ((l.take m ++ [c + 1]).map byteD) = (l.take m ++ [c + 1]).map byteD := List.take_of_length_le (by rw [List.length_map, q4]; omega)
    have q8 : m < m + 1 := by omega
    have q9 : m ≤ (l.take m).length := by simp; omega
    simp only [hg1, hg2, hg3, ofS, hm, h0, h0', h1, h1', h2, h5, h7, hle, q1, q2, q3, q5, q6, q7, q8, q9, Nat.mul_one, List.getElem?_map, Option.map_some, byteD, Int.toNat_natCast, T3, T4, T5, T9, T28, T64, e_seq, e_region, e_dyn, e_dynS, stepD, accs, accP, accW, simpleOp, isAl, isExt, flipD, D.fresh1, D.row, D.plain, D.plain.plainL, St.close, St.close1, St.borrow, List.flatten_cons, List.flatten_nil, e_block, e_cond, e_ret, e_skip, e_exit, e_plain, e_guard, e_nil, e_op, e_ifT, e_ifF, e_true, e_false, e_loop, e_l, e_top, e_seqN, e_seqE, e_seqR, e_blockN, e_blockR, e_blockE,
    begin_f, begin_t, end_f, e_finN, e_finX, e_finR, retV, resV, resL, outCL, outC, outL, outD, wantedV, opV, An.mid, thawV, D.plainU, prune, List.map_cons, List.map_nil, envOf, get, put, eval, evalT, nz, argsV, capsV, ofV, nbeq, nble, binV, binV.aggV, unV, intV, eqOp, isConst, natV, optV, loadV, loadC, storeV, St.at_, partV, partTy, indexAddrV, fieldAddrV, sliceV, sliceV.rowSl, sliceV.strSl, bounds, cutP,
    builtinV, lenV, maxL, maxV, appendV, St.elems, roomy, rowOf, rowS, isStr, esz, tdOf, convV, buildV, fillV, partsV, okParts, fillL, D.whole, D.demoteC, D.demote, demoteL, D.global, D.flat, D.leaf, D.cells, TI.agg, TD.rowish, callOpV, moveL, CC, keepB, St.borrowL, St.borrow, D.isLsl, adoptR, adoptC, adoptCL, adoptL, adopt,
    List.toArray, Array.toList, List.length_cons, List.length_nil, List.length_map, List.length_append, List.length_replicate, List.replicate_succ, List.replicate_zero, List.replicate_one, ← List.map_take, ← List.map_drop, List.isEmpty_cons, List.isEmpty_nil, List.drop_zero, List.take_succ_cons, List.take_zero, List.take_nil, List.drop_succ_cons, List.drop_nil, Nat.zero_le, Nat.le_refl, Nat.sub_zero, List.getElem?_cons_succ, List.getElem?_cons_zero, List.getElem?_nil, List.any_cons, List.any_nil, List.all_cons, List.all_nil, List.append_nil, List.nil_append, List.cons_append, List.set_cons_zero, List.set_cons_succ,
    cond_true, cond_false, decide_true, decide_false, Bool.true_and, Bool.and_true, Bool.false_and, Bool.and_false, Bool.true_or, Bool.or_true, Bool.false_or, Bool.or_false, Bool.not_true, Bool.not_false, Bool.and_self, Bool.or_self, bT, bF, ieq, ine, decide_eq_true_eq, decide_not,
    Nat.reduceEqDiff, Nat.reduceAdd, Nat.reduceSub, Nat.reduceMul, Nat.reduceLeDiff, Nat.reduceLT, Nat.zero_add, Nat.add_zero, Option.getD_some, Option.getD_none, Option.isSome_some, Option.isSome_none, reduceIte, reduceCtorEq, and_self, and_true, true_and, not_true_eq_false, not_false_eq_true, false_imp_iff, forall_const, imp_self,
    Int.reduceNeg, Int.reduceLT, Int.reduceLE, Int.reduceGT, Int.reduceGE, Int.reduceAdd, Int.reduceSub, Int.reduceMul, Int.reduceToNat, Int.reduceEq, ne_eq, eq_self, beq_self_eq_true]
    simp only [hg2, T3, T4, T5, T9, T28, T64, e_seq, e_region, e_dyn, e_dynS, stepD, accs, accP, accW, simpleOp, isAl, isExt, flipD, D.fresh1, D.row, D.plain, D.plain.plainL, St.close, St.close1, St.borrow, List.flatten_cons, List.flatten_nil, e_block, e_cond, e_ret, e_skip, e_exit, e_plain, e_guard, e_nil, e_op, e_ifT, e_ifF, e_true, e_false, e_loop, e_l, e_top, e_seqN, e_seqE, e_seqR, e_blockN, e_blockR, e_blockE,
    begin_f, begin_t, end_f, e_finN, e_finX, e_finR, retV, resV, resL, outCL, outC, outL, outD, wantedV, opV, An.mid, thawV, D.plainU, prune, List.map_cons, List.map_nil, envOf, get, put, eval, evalT, nz, argsV, capsV, ofV, nbeq, nble, binV, binV.aggV, unV, intV, eqOp, isConst, natV, optV, loadV, loadC, storeV, setC, St.at_, partV, partTy, indexAddrV, fieldAddrV, sliceV, sliceV.rowSl, sliceV.strSl, bounds, cutP,
    builtinV, lenV, maxL, maxV, appendV, St.elems, roomy, rowOf, rowS, isStr, esz, tdOf, convV, buildV, fillV, partsV, okParts, fillL, D.whole, D.demoteC, D.demote, demoteL, D.global, D.flat, D.leaf, D.cells, TI.agg, TD.rowish, callOpV, moveL, CC, keepB, St.borrowL, St.borrow, D.isLsl, adoptR, adoptC, adoptCL, adoptL, adopt,
    List.toArray, Array.toList, List.length_cons, List.length_nil, List.length_map, List.length_append, List.length_replicate, List.replicate_succ, List.replicate_zero, List.replicate_one, ← List.map_take, ← List.map_drop, List.isEmpty_cons, List.isEmpty_nil, List.drop_zero, List.take_succ_cons, List.take_zero, List.take_nil, List.drop_succ_cons, List.drop_nil, Nat.zero_le, Nat.le_refl, Nat.sub_zero, List.getElem?_cons_succ, List.getElem?_cons_zero, List.getElem?_nil, List.any_cons, List.any_nil, List.all_cons, List.all_nil, List.append_nil, List.nil_append, List.cons_append, List.set_cons_zero, List.set_cons_succ,
    cond_true, cond_false, decide_true, decide_false, Bool.true_and, Bool.and_true, Bool.false_and, Bool.and_false, Bool.true_or, Bool.or_true, Bool.false_or, Bool.or_false, Bool.not_true, Bool.not_false, Bool.and_self, Bool.or_self, bT, bF, ieq, ine, decide_eq_true_eq, decide_not,
    Nat.reduceEqDiff, Nat.reduceAdd, Nat.reduceSub, Nat.reduceMul, Nat.reduceLeDiff, Nat.reduceLT, Nat.zero_add, Nat.add_zero, Option.getD_some, Option.getD_none, Option.isSome_some, Option.isSome_none, reduceIte, reduceCtorEq, and_self, and_true, true_and, not_true_eq_false, not_false_eq_true, false_imp_iff, forall_const, imp_self,
    Int.reduceNeg, Int.reduceLT, Int.reduceLE, Int.reduceGT, Int.reduceGE, Int.reduceAdd, Int.reduceSub, Int.reduceMul, Int.reduceToNat, Int.reduceEq, ne_eq, eq_self, beq_self_eq_true]

end Go.Proofs.YtploddijjofphaaDoor.V
