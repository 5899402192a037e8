/-
Layer 7: what must come whatever the input is; the laws.
-/
import Derived.Test.YtdmlojinmkcldaaDoorKB
import Derived.Test.YtdmlojinmkcldaaDoorKM
namespace Go.Proofs.YtdmlojinmkcldaaDoor.V
open Go Go.RowKit
set_option linter.unusedSimpArgs false
set_option linter.unusedVariables false

/-! warren/warrenlaw07.sure -/
def an22 : An := ⟨fun _ => .none, fun _ => false, fun _ => false⟩
noncomputable def fi22 : FI := ⟨0, 41, Tryd.f22.body.getD .skip, Tryd.f22.results.toList, an22⟩
theorem ok22 : FnOk Tryd.prog 22 fi22 := ⟨⟨Tryd.f22, Tryd.func22, by kernel_rfl, rfl, rfl, rfl⟩, by decide, by kernel_rfl⟩
/-! warren/warrenlaw07.long -/
def an21 : An := ⟨fun | 2 => some [0, 3] | _ => .none, fun _ => false, fun _ => false⟩
noncomputable def fi21 : FI := ⟨1, 16, Tryd.f21.body.getD .skip, Tryd.f21.results.toList, an21⟩
theorem ok21 : FnOk Tryd.prog 21 fi21 := ⟨⟨Tryd.f21, Tryd.func21, by kernel_rfl, rfl, rfl, rfl⟩, by decide, by kernel_rfl⟩
noncomputable def lp21_0 : Code := subC [1, 0, 1, 0, 0] (Tryd.f21.body.getD .skip)   -- keep [0, 3]

def checkS (key : List UInt8) : D := if key = [] ∨ 40 < key.length then .iface 77 (.int .i64 1) else .nili
def hasS (lo hi key : List UInt8) (op : Bool) : Bool := !lt key lo && (op || lt key hi)
def emptyS (lo hi : List UInt8) (op : Bool) : Bool := !op && (lt hi lo || hi == lo)
def withinS (alo ahi blo bhi : List UInt8) (aop bop : Bool) : Bool := emptyS alo ahi aop || (!emptyS blo bhi bop && !lt alo blo && (bop || (!aop && (lt ahi bhi || ahi == bhi))))
def beginsS (s p : List UInt8) : Bool := decide (p.length ≤ s.length) && s.take p.length == p

/-- What is known of the functions that the laws of layer 7 call. -/
structure Known07 (C : Callees) : Prop where
  check : ∀ (key : List UInt8) (B : Hp), C 23 [.str key] B = some (checkS key, B)
  has : ∀ (lo hi key : List UInt8) (op : Bool) (B : Hp), C 25 [spD lo hi op, .str key] B = some (.bool (hasS lo hi key op), B)
  empty : ∀ (lo hi : List UInt8) (op : Bool) (B : Hp), C 27 [spD lo hi op] B = some (.bool (emptyS lo hi op), B)
  of : ∀ (l : List UInt8) (B : Hp), l.length ≤ 1000000 → C 29 [.str l] B = some (ofS l, B)
  meet : ∀ (alo ahi blo bhi : List UInt8) (aop bop : Bool) (B : Hp), C 31 [spD alo ahi aop, spD blo bhi bop] B = some (spD (mLo alo blo) (mHi aop bop ahi bhi) (aop && bop), B)
  within : ∀ (alo ahi blo bhi : List UInt8) (aop bop : Bool) (B : Hp), C 33 [spD alo ahi aop, spD blo bhi bop] B = some (.bool (withinS alo ahi blo bhi aop bop), B)
  next : ∀ (key : List UInt8) (B : Hp), key.length ≤ 1000000 → C 35 [.str key] B = some (.str (key ++ [0]), B)
  rhas : ∀ (lo hi key : List UInt8) (op : Bool) (B : Hp), key.length ≤ 1000000 → C 26 [spD lo hi op, .str key] B = some (.bool (hasS lo hi key op), B)
  rempty : ∀ (lo hi : List UInt8) (op : Bool) (B : Hp), lo.length ≤ 1000000 → C 28 [spD lo hi op] B = some (.bool (emptyS lo hi op), B)
  rof : ∀ (l : List UInt8) (B : Hp), l.length ≤ 1000000 → C 30 [.str l] B = some (ofS l, B)
  rmeet : ∀ (alo ahi blo bhi : List UInt8) (aop bop : Bool) (B : Hp), alo.length ≤ 1000000 → bhi.length ≤ 1000000 → C 32 [spD alo ahi aop, spD blo bhi bop] B = some (spD (mLo alo blo) (mHi aop bop ahi bhi) (aop && bop), B)
  rwithin : ∀ (alo ahi blo bhi : List UInt8) (aop bop : Bool) (B : Hp), alo.length ≤ 1000000 → blo.length ≤ 1000000 → bhi.length ≤ 1000000 → C 34 [spD alo ahi aop, spD blo bhi bop] B = some (.bool (withinS alo ahi blo bhi aop bop), B)
  begins : ∀ (s p : List UInt8) (B : Hp), C 36 [.str s, .str p] B = some (.bool (beginsS s p), B)
  numN : ∀ (B : Hp), C 24 [.nili] B = some (.int .i64 0, B)
  numE : ∀ (n : Int) (B : Hp), C 24 [.iface 77 (.int .i64 n)] B = some (.int .i64 n, B)

set_option maxRecDepth 10000 in
theorem run22 (C : Callees) (hk : Known07 C) (B : Hp) : runV T C fi22 [] B = some (.bool true, B) := by
  have o1 : ofS [97, 98] = spD [97, 98] [97, 99] false := rfl
  have o2 : ofS [255] = spD [255] [] true := rfl
  have o3 : ofS [97] = spD [97] [98] false := rfl
  have h1 := hk.of [97, 98] B (by simp)
  have h2 := hk.of [255] B (by simp)
  have h3 := hk.of [97] B (by simp)
  rw [o1] at h1; rw [o2] at h2; rw [o3] at h3
  have h4 := hk.has [97, 98] [97, 99] [97, 98, 255] false B
  have h5 := hk.has [97, 98] [97, 99] [97, 99] false B
  have h6 := hk.check [] B
  have h7 := hk.check [97] B
  have h8 := hk.empty [] [] false B
  have h9 := hk.next [97] B (by simp)
  have h10 := hk.within [97, 98] [97, 99] [97] [98] false false B
  have h11 := hk.numE 1 B
  have e4 : hasS [97, 98] [97, 99] [97, 98, 255] false = true := by decide
  have e5 : hasS [97, 98] [97, 99] [97, 99] false = false := by decide
  have e8 : emptyS [] [] false = true := by decide
  have e10 : withinS [97, 98] [97, 99] [97] [98] false false = true := by decide
  rw [e4] at h4; rw [e5] at h5; rw [e8] at h8; rw [e10] at h10
  have e9 : ([97] ++ [0] : List UInt8) = [97, 0] := rfl
  rw [e9] at h9
  simp only [checkS, true_or, if_true, reduceCtorEq, List.length_cons, List.length_nil, Nat.reduceAdd, Nat.reduceLT, or_self, if_false] at h6 h7
  rw [e_run _ _ _ rfl]
  simp only [fi22, Tryd.f22, an22, h1, h2, h3, h4, h5, h6, h7, h8, h9, h10, h11, strV, eqT, eqFields, T3, T4, T9, T25, T39, e_seq, e_region, e_dyn, e_dynS, stepD, accs, accP, accW, simpleOp, isAl, isExt, List.flatten_cons, List.flatten_nil, e_block, e_cond, e_ret, e_skip, e_exit, e_plain, e_guard, e_nil, e_op, e_ifT, e_ifF, e_true, e_false, e_loop, e_l, e_top, e_seqN, e_seqE, e_seqR, e_blockN, e_blockR, e_blockE,
    e_finN, e_finX, e_finR, retV, resV, resL, outCL, outC, outL, outD, wantedV, opV, An.at_, prune, List.map_cons, List.map_nil, envOf, get, put, eval, ofV, nbeq, nble, binV, binV.aggV, unV, intV, eqOp, isConst, natV, optV, loadV, loadC, storeV, setC, St.at_, partV, indexAddrV, fieldAddrV, sliceV, sliceV.rowSl, sliceV.strSl, bounds, cutP,
    builtinV, lenV, maxL, maxV, appendV, St.elems, roomy, rowOf, rowS, isStr, esz, tdOf, convV, buildV, fillV, partsV, okParts, fillL, D.whole, D.demoteC, D.demote, demoteL, D.global, D.leaf, D.cells, TI.agg, TD.rowish, callOpV, CC, keepB, St.borrowL, St.borrow, D.isLsl, adoptR, adoptC, adoptCL, adoptL, adopt, upd,
    List.toArray, Array.toList, List.length_cons, List.length_nil, List.length_map, List.length_append, List.length_replicate, List.replicate_succ, List.replicate_zero, List.replicate_one, ← List.map_take, ← List.map_drop, List.drop_zero, List.take_succ_cons, List.take_zero, List.take_nil, List.drop_succ_cons, List.drop_nil, Nat.zero_le, Nat.le_refl, Nat.sub_zero, List.getElem?_cons_succ, List.getElem?_cons_zero, List.getElem?_nil, List.any_cons, List.any_nil, List.all_cons, List.all_nil, List.append_nil, List.nil_append, List.cons_append, List.set_cons_zero, List.set_cons_succ,
    cond_true, cond_false, decide_true, decide_false, Bool.true_and, Bool.and_true, Bool.false_and, Bool.and_false, Bool.true_or, Bool.or_true, Bool.false_or, Bool.or_false, Bool.not_true, Bool.not_false, Bool.and_self, Bool.or_self, bT, bF, ieq, ine, decide_eq_true_eq, decide_not,
    Nat.reduceEqDiff, Nat.reduceAdd, Nat.reduceSub, Nat.reduceMul, Nat.reduceLeDiff, Nat.reduceLT, Nat.zero_add, Nat.add_zero, Option.getD_some, Option.getD_none, Option.isSome_some, Option.isSome_none, reduceIte, reduceCtorEq, and_self, and_true, true_and, not_true_eq_false, not_false_eq_true, false_imp_iff, forall_const, imp_self,
    Int.reduceNeg, Int.reduceLT, Int.reduceLE, Int.reduceAdd, Int.reduceSub, Int.reduceMul, Int.reduceToNat, Int.reduceEq, ne_eq, eq_self, beq_self_eq_true]

/-! ### long -/
def st21 (ls : List (List UInt8)) (p : Perm) (B : Hp) (k : Nat) : St := ⟨[(0, .vec 1 (ls.map .str) p), (3, .int .i64 k)], [], [], B⟩

set_option maxRecDepth 10000 in
theorem body21_end (C : Callees) (ls : List (List UInt8)) (p : Perm) (B : Hp) :
    ∃ ρ, go T an21 C lp21_0 .top (st21 ls p B ls.length) = some (.exit 0, ⟨ρ, [], [], B⟩) := by
  simp only [st21, lp21_0, subC, atC, Tryd.f21, an21, Int.lt_irrefl, T3, T9, T82, e_seq, e_region, e_dyn, e_dynS, stepD, accs, accP, accW, simpleOp, isAl, isExt, List.flatten_cons, List.flatten_nil, e_block, e_cond, e_ret, e_skip, e_exit, e_plain, e_guard, e_nil, e_op, e_ifT, e_ifF, e_true, e_false, e_loop, e_l, e_top, e_seqN, e_seqE, e_seqR, e_blockN, e_blockR, e_blockE,
    e_finN, e_finX, e_finR, retV, resV, resL, outCL, outC, outL, outD, wantedV, opV, An.at_, prune, List.map_cons, List.map_nil, envOf, get, put, eval, ofV, nbeq, nble, binV, binV.aggV, unV, intV, eqOp, isConst, natV, optV, loadV, loadC, storeV, setC, St.at_, partV, indexAddrV, fieldAddrV, sliceV, sliceV.rowSl, sliceV.strSl, bounds, cutP,
    builtinV, lenV, maxL, maxV, appendV, St.elems, roomy, rowOf, rowS, isStr, esz, tdOf, convV, buildV, fillV, partsV, okParts, fillL, D.whole, D.demoteC, D.demote, demoteL, D.global, D.leaf, D.cells, TI.agg, TD.rowish, callOpV, CC, keepB, St.borrowL, St.borrow, D.isLsl, adoptR, adoptC, adoptCL, adoptL, adopt, upd,
    List.toArray, Array.toList, List.length_cons, List.length_nil, List.length_map, List.length_append, List.length_replicate, List.replicate_succ, List.replicate_zero, List.replicate_one, ← List.map_take, ← List.map_drop, List.drop_zero, List.take_succ_cons, List.take_zero, List.take_nil, List.drop_succ_cons, List.drop_nil, Nat.zero_le, Nat.le_refl, Nat.sub_zero, List.getElem?_cons_succ, List.getElem?_cons_zero, List.getElem?_nil, List.any_cons, List.any_nil, List.all_cons, List.all_nil, List.append_nil, List.nil_append, List.cons_append, List.set_cons_zero, List.set_cons_succ,
    cond_true, cond_false, decide_true, decide_false, Bool.true_and, Bool.and_true, Bool.false_and, Bool.and_false, Bool.true_or, Bool.or_true, Bool.false_or, Bool.or_false, Bool.not_true, Bool.not_false, Bool.and_self, Bool.or_self, bT, bF, ieq, ine, decide_eq_true_eq, decide_not,
    Nat.reduceEqDiff, Nat.reduceAdd, Nat.reduceSub, Nat.reduceMul, Nat.reduceLeDiff, Nat.reduceLT, Nat.zero_add, Nat.add_zero, Option.getD_some, Option.getD_none, Option.isSome_some, Option.isSome_none, reduceIte, reduceCtorEq, and_self, and_true, true_and, not_true_eq_false, not_false_eq_true, false_imp_iff, forall_const, imp_self,
    Int.reduceNeg, Int.reduceLT, Int.reduceLE, Int.reduceAdd, Int.reduceSub, Int.reduceMul, Int.reduceToNat, Int.reduceEq, ne_eq, eq_self, beq_self_eq_true]
  exact ⟨_, rfl⟩

set_option maxRecDepth 10000 in
theorem body21_hit (C : Callees) (ls : List (List UInt8)) (p : Perm) (B : Hp) (k : Nat) (s : List UInt8) (hk : ls[k]? = some s) (hs : 300 < s.length) :
    ∃ ρ, go T an21 C lp21_0 .top (st21 ls p B k) = some (.ret, ⟨ρ, [], [], B⟩) ∧ get ρ 2 = .bool true := by
  have hlt : (k : Int) < ls.length := by have := (List.getElem?_eq_some_iff.1 hk).1; omega
  have h0 : (0 : Int) ≤ k := by omega
  have h1 : (s.length : Int) > 300 := by omega
  simp only [st21, lp21_0, subC, atC, Tryd.f21, an21, hlt, h0, h1, List.getElem?_map, Int.toNat_natCast, hk, Option.map_some, T3, T9, T82, e_seq, e_region, e_dyn, e_dynS, stepD, accs, accP, accW, simpleOp, isAl, isExt, List.flatten_cons, List.flatten_nil, e_block, e_cond, e_ret, e_skip, e_exit, e_plain, e_guard, e_nil, e_op, e_ifT, e_ifF, e_true, e_false, e_loop, e_l, e_top, e_seqN, e_seqE, e_seqR, e_blockN, e_blockR, e_blockE,
    e_finN, e_finX, e_finR, retV, resV, resL, outCL, outC, outL, outD, wantedV, opV, An.at_, prune, List.map_cons, List.map_nil, envOf, get, put, eval, ofV, nbeq, nble, binV, binV.aggV, unV, intV, eqOp, isConst, natV, optV, loadV, loadC, storeV, setC, St.at_, partV, indexAddrV, fieldAddrV, sliceV, sliceV.rowSl, sliceV.strSl, bounds, cutP,
    builtinV, lenV, maxL, maxV, appendV, St.elems, roomy, rowOf, rowS, isStr, esz, tdOf, convV, buildV, fillV, partsV, okParts, fillL, D.whole, D.demoteC, D.demote, demoteL, D.global, D.leaf, D.cells, TI.agg, TD.rowish, callOpV, CC, keepB, St.borrowL, St.borrow, D.isLsl, adoptR, adoptC, adoptCL, adoptL, adopt, upd,
    List.toArray, Array.toList, List.length_cons, List.length_nil, List.length_map, List.length_append, List.length_replicate, List.replicate_succ, List.replicate_zero, List.replicate_one, ← List.map_take, ← List.map_drop, List.drop_zero, List.take_succ_cons, List.take_zero, List.take_nil, List.drop_succ_cons, List.drop_nil, Nat.zero_le, Nat.le_refl, Nat.sub_zero, List.getElem?_cons_succ, List.getElem?_cons_zero, List.getElem?_nil, List.any_cons, List.any_nil, List.all_cons, List.all_nil, List.append_nil, List.nil_append, List.cons_append, List.set_cons_zero, List.set_cons_succ,
    cond_true, cond_false, decide_true, decide_false, Bool.true_and, Bool.and_true, Bool.false_and, Bool.and_false, Bool.true_or, Bool.or_true, Bool.false_or, Bool.or_false, Bool.not_true, Bool.not_false, Bool.and_self, Bool.or_self, bT, bF, ieq, ine, decide_eq_true_eq, decide_not,
    Nat.reduceEqDiff, Nat.reduceAdd, Nat.reduceSub, Nat.reduceMul, Nat.reduceLeDiff, Nat.reduceLT, Nat.zero_add, Nat.add_zero, Option.getD_some, Option.getD_none, Option.isSome_some, Option.isSome_none, reduceIte, reduceCtorEq, and_self, and_true, true_and, not_true_eq_false, not_false_eq_true, false_imp_iff, forall_const, imp_self,
    Int.reduceNeg, Int.reduceLT, Int.reduceLE, Int.reduceAdd, Int.reduceSub, Int.reduceMul, Int.reduceToNat, Int.reduceEq, ne_eq, eq_self, beq_self_eq_true]
  exact ⟨_, rfl, rfl⟩

set_option maxRecDepth 10000 in
theorem body21_ok (C : Callees) (ls : List (List UInt8)) (p : Perm) (B : Hp) (k : Nat) (s : List UInt8) (hk : ls[k]? = some s) (hs : ¬ 300 < s.length) (hl : ls.length ≤ 1000) :
    ∃ ρ, go T an21 C lp21_0 .top (st21 ls p B k) = some (.norm, ⟨ρ, [], [], B⟩) ∧ an21.at_ (some 2) ⟨ρ, [], [], B⟩ = st21 ls p B (k + 1) := by
  have hlt' := (List.getElem?_eq_some_iff.1 hk).1
  have hlt : (k : Int) < ls.length := by omega
  have h0 : (0 : Int) ≤ k := by omega
  have h1 : ¬ (s.length : Int) > 300 := by omega
  have h2 := wrapI (x := (k : Int) + 1) (by omega) (by omega)
  simp only [st21, lp21_0, subC, atC, Tryd.f21, an21, hlt, h0, h1, h2, List.getElem?_map, Int.toNat_natCast, hk, Option.map_some, T3, T9, T82, e_seq, e_region, e_dyn, e_dynS, stepD, accs, accP, accW, simpleOp, isAl, isExt, List.flatten_cons, List.flatten_nil, e_block, e_cond, e_ret, e_skip, e_exit, e_plain, e_guard, e_nil, e_op, e_ifT, e_ifF, e_true, e_false, e_loop, e_l, e_top, e_seqN, e_seqE, e_seqR, e_blockN, e_blockR, e_blockE,
    e_finN, e_finX, e_finR, retV, resV, resL, outCL, outC, outL, outD, wantedV, opV, An.at_, prune, List.map_cons, List.map_nil, envOf, get, put, eval, ofV, nbeq, nble, binV, binV.aggV, unV, intV, eqOp, isConst, natV, optV, loadV, loadC, storeV, setC, St.at_, partV, indexAddrV, fieldAddrV, sliceV, sliceV.rowSl, sliceV.strSl, bounds, cutP,
    builtinV, lenV, maxL, maxV, appendV, St.elems, roomy, rowOf, rowS, isStr, esz, tdOf, convV, buildV, fillV, partsV, okParts, fillL, D.whole, D.demoteC, D.demote, demoteL, D.global, D.leaf, D.cells, TI.agg, TD.rowish, callOpV, CC, keepB, St.borrowL, St.borrow, D.isLsl, adoptR, adoptC, adoptCL, adoptL, adopt, upd,
    List.toArray, Array.toList, List.length_cons, List.length_nil, List.length_map, List.length_append, List.length_replicate, List.replicate_succ, List.replicate_zero, List.replicate_one, ← List.map_take, ← List.map_drop, List.drop_zero, List.take_succ_cons, List.take_zero, List.take_nil, List.drop_succ_cons, List.drop_nil, Nat.zero_le, Nat.le_refl, Nat.sub_zero, List.getElem?_cons_succ, List.getElem?_cons_zero, List.getElem?_nil, List.any_cons, List.any_nil, List.all_cons, List.all_nil, List.append_nil, List.nil_append, List.cons_append, List.set_cons_zero, List.set_cons_succ,
    cond_true, cond_false, decide_true, decide_false, Bool.true_and, Bool.and_true, Bool.false_and, Bool.and_false, Bool.true_or, Bool.or_true, Bool.false_or, Bool.or_false, Bool.not_true, Bool.not_false, Bool.and_self, Bool.or_self, bT, bF, ieq, ine, decide_eq_true_eq, decide_not,
    Nat.reduceEqDiff, Nat.reduceAdd, Nat.reduceSub, Nat.reduceMul, Nat.reduceLeDiff, Nat.reduceLT, Nat.zero_add, Nat.add_zero, Option.getD_some, Option.getD_none, Option.isSome_some, Option.isSome_none, reduceIte, reduceCtorEq, and_self, and_true, true_and, not_true_eq_false, not_false_eq_true, false_imp_iff, forall_const, imp_self,
    Int.reduceNeg, Int.reduceLT, Int.reduceLE, Int.reduceAdd, Int.reduceSub, Int.reduceMul, Int.reduceToNat, Int.reduceEq, ne_eq, eq_self, beq_self_eq_true]
  exact ⟨_, rfl, rfl⟩

theorem loop21 (C : Callees) (ls : List (List UInt8)) (p : Perm) (B : Hp) (hl : ls.length ≤ 1000) : ∀ (m k : Nat) (st : St), ls.length - k = m → k ≤ ls.length → an21.at_ (some 2) st = st21 ls p B k →
    ∃ x st', loopC T an21 C lp21_0 st = some (x, st') ∧ ∃ ρ, st' = ⟨ρ, [], [], B⟩ ∧ ((x = .ret ∧ get ρ 2 = .bool true ∧ (ls.drop k).any (fun s => decide (300 < s.length)) = true) ∨ (x = .exit 0 ∧ (ls.drop k).any (fun s => decide (300 < s.length)) = false)) := by
  intro m
  induction m with
  | zero =>
    intro k st hm hk hst
    obtain rfl : k = ls.length := by omega
    obtain ⟨ρ, h⟩ := body21_end C ls p B
    exact ⟨_, _, loopC_done (by rw [show firstOf lp21_0 = some 2 from rfl, hst]; exact h) (by simp), ρ, rfl, .inr ⟨rfl, by simp⟩⟩
  | succ m ih =>
    intro k st hm hk hst
    have hkn := List.getElem?_eq_getElem (l := ls) (i := k) (by omega)
    rw [List.drop_eq_getElem_cons (by omega : k < ls.length)]
    generalize ls[k] = s at hkn ⊢
    by_cases hs : 300 < s.length
    · obtain ⟨ρ, h, hg⟩ := body21_hit C ls p B k s hkn hs
      exact ⟨_, _, loopC_done (by rw [show firstOf lp21_0 = some 2 from rfl, hst]; exact h) (by simp), ρ, rfl, .inl ⟨rfl, hg, by simp [hs]⟩⟩
    · obtain ⟨ρ, h, hg⟩ := body21_ok C ls p B k s hkn hs hl
      obtain ⟨x, st', h4, ρ', h5, h6⟩ := ih (k + 1) ⟨ρ, [], [], B⟩ (by omega) (by omega) hg
      refine ⟨x, st', loopC_next (by rw [show firstOf lp21_0 = some 2 from rfl, hst]; exact h) h4, ρ', h5, ?_⟩
      simpa only [List.any_cons, hs, decide_false, Bool.false_or] using h6

def longS (ls : List (List UInt8)) : Bool := ls.any fun s => decide (300 < s.length)

set_option maxRecDepth 10000 in
theorem run21 (C : Callees) (ls : List (List UInt8)) (p : Perm) (B : Hp) (hl : ls.length ≤ 1000) : runV T C fi21 [.vec 1 (ls.map .str) p] B = some (.bool (longS ls), B) := by
  rw [e_run _ _ _ rfl]
  simp only [fi21, Tryd.f21, an21, T3, T9, T82, e_seq, e_region, e_dyn, e_dynS, stepD, accs, accP, accW, simpleOp, isAl, isExt, List.flatten_cons, List.flatten_nil, e_block, e_cond, e_ret, e_skip, e_exit, e_plain, e_guard, e_nil, e_op, e_ifT, e_ifF, e_true, e_false, e_loop, e_l, e_top, e_seqN, e_seqE, e_seqR, e_blockN, e_blockR, e_blockE,
    e_finN, e_finX, e_finR, retV, resV, resL, outCL, outC, outL, outD, wantedV, opV, An.at_, prune, List.map_cons, List.map_nil, envOf, get, put, eval, ofV, nbeq, nble, binV, binV.aggV, unV, intV, eqOp, isConst, natV, optV, loadV, loadC, storeV, setC, St.at_, partV, indexAddrV, fieldAddrV, sliceV, sliceV.rowSl, sliceV.strSl, bounds, cutP,
    builtinV, lenV, maxL, maxV, appendV, St.elems, roomy, rowOf, rowS, isStr, esz, tdOf, convV, buildV, fillV, partsV, okParts, fillL, D.whole, D.demoteC, D.demote, demoteL, D.global, D.leaf, D.cells, TI.agg, TD.rowish, callOpV, CC, keepB, St.borrowL, St.borrow, D.isLsl, adoptR, adoptC, adoptCL, adoptL, adopt, upd,
    List.toArray, Array.toList, List.length_cons, List.length_nil, List.length_map, List.length_append, List.length_replicate, List.replicate_succ, List.replicate_zero, List.replicate_one, ← List.map_take, ← List.map_drop, List.drop_zero, List.take_succ_cons, List.take_zero, List.take_nil, List.drop_succ_cons, List.drop_nil, Nat.zero_le, Nat.le_refl, Nat.sub_zero, List.getElem?_cons_succ, List.getElem?_cons_zero, List.getElem?_nil, List.any_cons, List.any_nil, List.all_cons, List.all_nil, List.append_nil, List.nil_append, List.cons_append, List.set_cons_zero, List.set_cons_succ,
    cond_true, cond_false, decide_true, decide_false, Bool.true_and, Bool.and_true, Bool.false_and, Bool.and_false, Bool.true_or, Bool.or_true, Bool.false_or, Bool.or_false, Bool.not_true, Bool.not_false, Bool.and_self, Bool.or_self, bT, bF, ieq, ine, decide_eq_true_eq, decide_not,
    Nat.reduceEqDiff, Nat.reduceAdd, Nat.reduceSub, Nat.reduceMul, Nat.reduceLeDiff, Nat.reduceLT, Nat.zero_add, Nat.add_zero, Option.getD_some, Option.getD_none, Option.isSome_some, Option.isSome_none, reduceIte, reduceCtorEq, and_self, and_true, true_and, not_true_eq_false, not_false_eq_true, false_imp_iff, forall_const, imp_self,
    Int.reduceNeg, Int.reduceLT, Int.reduceLE, Int.reduceAdd, Int.reduceSub, Int.reduceMul, Int.reduceToNat, Int.reduceEq, ne_eq, eq_self, beq_self_eq_true]
  refine' in_loop (c' := lp21_0) (fin T _) ?h rfl ?q
  case h => exact loop21 C ls p B hl _ 0 _ rfl (by omega) rfl
  rintro x st' ⟨ρ, rfl, ⟨rfl, hg, hb⟩ | ⟨rfl, hb⟩⟩
  · rw [List.drop_zero] at hb
    simp only [hg, longS, hb, T3, T9, T82, e_seq, e_region, e_dyn, e_dynS, stepD, accs, accP, accW, simpleOp, isAl, isExt, List.flatten_cons, List.flatten_nil, e_block, e_cond, e_ret, e_skip, e_exit, e_plain, e_guard, e_nil, e_op, e_ifT, e_ifF, e_true, e_false, e_loop, e_l, e_top, e_seqN, e_seqE, e_seqR, e_blockN, e_blockR, e_blockE,
    e_finN, e_finX, e_finR, retV, resV, resL, outCL, outC, outL, outD, wantedV, opV, An.at_, prune, List.map_cons, List.map_nil, envOf, get, put, eval, ofV, nbeq, nble, binV, binV.aggV, unV, intV, eqOp, isConst, natV, optV, loadV, loadC, storeV, setC, St.at_, partV, indexAddrV, fieldAddrV, sliceV, sliceV.rowSl, sliceV.strSl, bounds, cutP,
    builtinV, lenV, maxL, maxV, appendV, St.elems, roomy, rowOf, rowS, isStr, esz, tdOf, convV, buildV, fillV, partsV, okParts, fillL, D.whole, D.demoteC, D.demote, demoteL, D.global, D.leaf, D.cells, TI.agg, TD.rowish, callOpV, CC, keepB, St.borrowL, St.borrow, D.isLsl, adoptR, adoptC, adoptCL, adoptL, adopt, upd,
    List.toArray, Array.toList, List.length_cons, List.length_nil, List.length_map, List.length_append, List.length_replicate, List.replicate_succ, List.replicate_zero, List.replicate_one, ← List.map_take, ← List.map_drop, List.drop_zero, List.take_succ_cons, List.take_zero, List.take_nil, List.drop_succ_cons, List.drop_nil, Nat.zero_le, Nat.le_refl, Nat.sub_zero, List.getElem?_cons_succ, List.getElem?_cons_zero, List.getElem?_nil, List.any_cons, List.any_nil, List.all_cons, List.all_nil, List.append_nil, List.nil_append, List.cons_append, List.set_cons_zero, List.set_cons_succ,
    cond_true, cond_false, decide_true, decide_false, Bool.true_and, Bool.and_true, Bool.false_and, Bool.and_false, Bool.true_or, Bool.or_true, Bool.false_or, Bool.or_false, Bool.not_true, Bool.not_false, Bool.and_self, Bool.or_self, bT, bF, ieq, ine, decide_eq_true_eq, decide_not,
    Nat.reduceEqDiff, Nat.reduceAdd, Nat.reduceSub, Nat.reduceMul, Nat.reduceLeDiff, Nat.reduceLT, Nat.zero_add, Nat.add_zero, Option.getD_some, Option.getD_none, Option.isSome_some, Option.isSome_none, reduceIte, reduceCtorEq, and_self, and_true, true_and, not_true_eq_false, not_false_eq_true, false_imp_iff, forall_const, imp_self,
    Int.reduceNeg, Int.reduceLT, Int.reduceLE, Int.reduceAdd, Int.reduceSub, Int.reduceMul, Int.reduceToNat, Int.reduceEq, ne_eq, eq_self, beq_self_eq_true]
  · rw [List.drop_zero] at hb
    simp only [longS, hb, T3, T9, T82, e_seq, e_region, e_dyn, e_dynS, stepD, accs, accP, accW, simpleOp, isAl, isExt, List.flatten_cons, List.flatten_nil, e_block, e_cond, e_ret, e_skip, e_exit, e_plain, e_guard, e_nil, e_op, e_ifT, e_ifF, e_true, e_false, e_loop, e_l, e_top, e_seqN, e_seqE, e_seqR, e_blockN, e_blockR, e_blockE,
    e_finN, e_finX, e_finR, retV, resV, resL, outCL, outC, outL, outD, wantedV, opV, An.at_, prune, List.map_cons, List.map_nil, envOf, get, put, eval, ofV, nbeq, nble, binV, binV.aggV, unV, intV, eqOp, isConst, natV, optV, loadV, loadC, storeV, setC, St.at_, partV, indexAddrV, fieldAddrV, sliceV, sliceV.rowSl, sliceV.strSl, bounds, cutP,
    builtinV, lenV, maxL, maxV, appendV, St.elems, roomy, rowOf, rowS, isStr, esz, tdOf, convV, buildV, fillV, partsV, okParts, fillL, D.whole, D.demoteC, D.demote, demoteL, D.global, D.leaf, D.cells, TI.agg, TD.rowish, callOpV, CC, keepB, St.borrowL, St.borrow, D.isLsl, adoptR, adoptC, adoptCL, adoptL, adopt, upd,
    List.toArray, Array.toList, List.length_cons, List.length_nil, List.length_map, List.length_append, List.length_replicate, List.replicate_succ, List.replicate_zero, List.replicate_one, ← List.map_take, ← List.map_drop, List.drop_zero, List.take_succ_cons, List.take_zero, List.take_nil, List.drop_succ_cons, List.drop_nil, Nat.zero_le, Nat.le_refl, Nat.sub_zero, List.getElem?_cons_succ, List.getElem?_cons_zero, List.getElem?_nil, List.any_cons, List.any_nil, List.all_cons, List.all_nil, List.append_nil, List.nil_append, List.cons_append, List.set_cons_zero, List.set_cons_succ,
    cond_true, cond_false, decide_true, decide_false, Bool.true_and, Bool.and_true, Bool.false_and, Bool.and_false, Bool.true_or, Bool.or_true, Bool.false_or, Bool.or_false, Bool.not_true, Bool.not_false, Bool.and_self, Bool.or_self, bT, bF, ieq, ine, decide_eq_true_eq, decide_not,
    Nat.reduceEqDiff, Nat.reduceAdd, Nat.reduceSub, Nat.reduceMul, Nat.reduceLeDiff, Nat.reduceLT, Nat.zero_add, Nat.add_zero, Option.getD_some, Option.getD_none, Option.isSome_some, Option.isSome_none, reduceIte, reduceCtorEq, and_self, and_true, true_and, not_true_eq_false, not_false_eq_true, false_imp_iff, forall_const, imp_self,
    Int.reduceNeg, Int.reduceLT, Int.reduceLE, Int.reduceAdd, Int.reduceSub, Int.reduceMul, Int.reduceToNat, Int.reduceEq, ne_eq, eq_self, beq_self_eq_true]

theorem longS_false {ls : List (List UInt8)} (h : longS ls = false) {s : List UInt8} (hs : s ∈ ls) : s.length ≤ 300 := by
  have := List.any_eq_false.1 h s hs
  simpa using this

theorem ofS_span (l : List UInt8) : ∃ lo hi op, ofS l = spD lo hi op := by
  unfold ofS
  cases topN l l.length with
  | zero => exact ⟨_, _, _, rfl⟩
  | succ m => exact ⟨_, _, _, rfl⟩

end Go.Proofs.YtdmlojinmkcldaaDoor.V
