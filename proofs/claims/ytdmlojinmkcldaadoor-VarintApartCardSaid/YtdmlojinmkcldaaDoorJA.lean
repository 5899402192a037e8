/-
Layer 3: numbers as few bytes: Put.
-/
import Derived.Test.YtdmlojinmkcldaaDoorWK
import Derived.Test.YtdmlojinmkcldaaDoorProg
import Derived.KernelRfl
namespace Go.Proofs.YtdmlojinmkcldaaDoor.V
open Go Go.RowKit
set_option linter.unusedSimpArgs false
set_option linter.unusedVariables false

noncomputable abbrev T := tabOf Tryd.prog
theorem T2 : T 2 = some ⟨.int .i64, 1, 8, (.int .i64 0), true⟩ := by kernel_rfl
theorem T3 : T 3 = some ⟨.int .i64, 1, 8, (.int .i64 0), true⟩ := by kernel_rfl
theorem T4 : T 4 = some ⟨.bool, 1, 1, (.bool false), true⟩ := by kernel_rfl
theorem T5 : T 5 = some ⟨.int .u8, 1, 1, (.int .u8 0), true⟩ := by kernel_rfl
theorem T9 : T 9 = some ⟨.str, 1, 16, (.str []), true⟩ := by kernel_rfl
theorem T25 : T 25 = some ⟨.iface, 1, 16, .nili, false⟩ := by kernel_rfl
theorem T34 : T 34 = some ⟨.slice 5, 1, 24, .nilsl, true⟩ := by kernel_rfl
theorem T63 : T 63 = some ⟨.int .u64, 1, 8, (.int .u64 0), true⟩ := by kernel_rfl
theorem T65 : T 65 = some ⟨.int .u64, 1, 8, (.int .u64 0), true⟩ := by kernel_rfl
theorem T77 : T 77 = some ⟨.int .i64, 1, 8, (.int .i64 0), true⟩ := by kernel_rfl
/-! slices.Clone[[]byte,byte] -/
def an62 : An := ⟨fun _ => .none, fun _ => false, fun _ => false⟩
noncomputable def fi62 : FI := ⟨1, 8, Tryd.f62.body.getD .skip, Tryd.f62.results.toList, an62⟩
theorem ok62 : FnOk Tryd.prog 62 fi62 := ⟨⟨Tryd.f62, Tryd.func62, by kernel_rfl, rfl, rfl, rfl⟩, by decide, by kernel_rfl⟩
/-! warren/varint.Put -/
def an49 : An := ⟨fun | 2 => some [1, 5] | _ => .none, fun _ => false, fun _ => false⟩
noncomputable def fi49 : FI := ⟨2, 23, Tryd.f49.body.getD .skip, Tryd.f49.results.toList, an49⟩
theorem ok49 : FnOk Tryd.prog 49 fi49 := ⟨⟨Tryd.f49, Tryd.func49, by kernel_rfl, rfl, rfl, rfl⟩, by decide, by kernel_rfl⟩
noncomputable def lp49_0 : Code := subC [1, 1, 0, 0, 0] (Tryd.f49.body.getD .skip)   -- keep [1, 5]
/-! warren/warrenref03.Put -/
def an50 : An := ⟨fun | 3 => some [1, 5] | _ => .none, fun _ => false, fun _ => false⟩
noncomputable def fi50 : FI := ⟨2, 25, Tryd.f50.body.getD .skip, Tryd.f50.results.toList, an50⟩
theorem ok50 : FnOk Tryd.prog 50 fi50 := ⟨⟨Tryd.f50, Tryd.func50, by kernel_rfl, rfl, rfl, rfl⟩, by decide, by kernel_rfl⟩
noncomputable def lp50_0 : Code := subC [1, 1, 1, 0, 0, 0] (Tryd.f50.body.getD .skip)   -- keep [1, 5]

/-- Bytes as an argument. -/
def ByD (d : D) (l : List UInt8) : Prop := (d = .nilsl ∧ l = []) ∨ ∃ p, d = .vec 1 (l.map byteD) p

def cloneS (l : List UInt8) : D := if l = [] then .vec 1 [] .exact else .vec 1 (l.map byteD) .fresh

set_option maxRecDepth 10000 in
theorem run62_nil (C : Callees) (B : Hp) : runV T C fi62 [.nilsl] B = some (.nilsl, B) := by
  rw [e_run _ _ _ rfl]
  simp only [fi62, Tryd.f62, an62, T5, T34, e_seq, e_region, e_dyn, e_dynS, stepD, accs, accP, accW, simpleOp, isAl, isExt, List.flatten_cons, List.flatten_nil, e_block, e_cond, e_ret, e_skip, e_exit, e_plain, e_guard, e_nil, e_op, e_ifT, e_ifF, e_true, e_false, e_loop, e_l, e_top, e_seqN, e_seqE, e_seqR, e_blockN, e_blockR, e_blockE,
    e_finN, e_finX, e_finR, retV, resV, resL, outCL, outC, outL, outD, wantedV, opV, An.at_, prune, List.map_cons, List.map_nil, envOf, get, put, eval, ofV, nbeq, nble, binV, binV.aggV, unV, intV, eqOp, isConst, natV, optV, loadV, loadC, storeV, setC, St.at_, partV, indexAddrV, fieldAddrV, sliceV, sliceV.rowSl, sliceV.strSl, bounds, cutP,
    builtinV, lenV, maxL, maxV, appendV, St.elems, roomy, rowOf, rowS, isStr, esz, tdOf, convV, buildV, fillV, partsV, okParts, fillL, D.whole, D.demoteC, D.demote, demoteL, D.global, D.leaf, D.cells, TI.agg, TD.rowish, callOpV, CC, keepB, St.borrowL, St.borrow, D.isLsl, adoptR, adoptC, adoptCL, adoptL, adopt, upd,
    List.toArray, Array.toList, List.length_cons, List.length_nil, List.length_map, List.length_append, List.length_replicate, List.replicate_succ, List.replicate_zero, List.replicate_one, ← List.map_take, ← List.map_drop, List.drop_zero, List.take_succ_cons, List.take_zero, List.take_nil, List.drop_succ_cons, List.drop_nil, Nat.zero_le, Nat.le_refl, Nat.sub_zero, List.getElem?_cons_succ, List.getElem?_cons_zero, List.getElem?_nil, List.any_cons, List.any_nil, List.all_cons, List.all_nil, List.append_nil, List.nil_append, List.cons_append, List.set_cons_zero, List.set_cons_succ,
    cond_true, cond_false, decide_true, decide_false, Bool.true_and, Bool.and_true, Bool.false_and, Bool.and_false, Bool.true_or, Bool.or_true, Bool.false_or, Bool.or_false, Bool.not_true, Bool.not_false, Bool.and_self, Bool.or_self, bT, bF, ieq, ine, decide_eq_true_eq, decide_not,
    Nat.reduceEqDiff, Nat.reduceAdd, Nat.reduceSub, Nat.reduceMul, Nat.reduceLeDiff, Nat.reduceLT, Nat.zero_add, Nat.add_zero, Option.getD_some, Option.getD_none, Option.isSome_some, Option.isSome_none, reduceIte, reduceCtorEq, and_self, and_true, true_and, not_true_eq_false, not_false_eq_true, false_imp_iff, forall_const, imp_self,
    Int.reduceNeg, Int.reduceLT, Int.reduceLE, Int.reduceAdd, Int.reduceSub, Int.reduceMul, Int.reduceToNat, Int.reduceEq, ne_eq, eq_self, beq_self_eq_true]

set_option maxRecDepth 10000 in
theorem run62_vec (C : Callees) (l : List UInt8) (p : Perm) (B : Hp) (hl : l.length ≤ 100000) : runV T C fi62 [.vec 1 (l.map byteD) p] B = some (cloneS l, B) := by
  rw [e_run _ _ _ rfl]
  by_cases h : l = []
  · subst h
    simp only [fi62, Tryd.f62, an62, cloneS, dp, T5, T34, e_seq, e_region, e_dyn, e_dynS, stepD, accs, accP, accW, simpleOp, isAl, isExt, List.flatten_cons, List.flatten_nil, e_block, e_cond, e_ret, e_skip, e_exit, e_plain, e_guard, e_nil, e_op, e_ifT, e_ifF, e_true, e_false, e_loop, e_l, e_top, e_seqN, e_seqE, e_seqR, e_blockN, e_blockR, e_blockE,
    e_finN, e_finX, e_finR, retV, resV, resL, outCL, outC, outL, outD, wantedV, opV, An.at_, prune, List.map_cons, List.map_nil, envOf, get, put, eval, ofV, nbeq, nble, binV, binV.aggV, unV, intV, eqOp, isConst, natV, optV, loadV, loadC, storeV, setC, St.at_, partV, indexAddrV, fieldAddrV, sliceV, sliceV.rowSl, sliceV.strSl, bounds, cutP,
    builtinV, lenV, maxL, maxV, appendV, St.elems, roomy, rowOf, rowS, isStr, esz, tdOf, convV, buildV, fillV, partsV, okParts, fillL, D.whole, D.demoteC, D.demote, demoteL, D.global, D.leaf, D.cells, TI.agg, TD.rowish, callOpV, CC, keepB, St.borrowL, St.borrow, D.isLsl, adoptR, adoptC, adoptCL, adoptL, adopt, upd,
    List.toArray, Array.toList, List.length_cons, List.length_nil, List.length_map, List.length_append, List.length_replicate, List.replicate_succ, List.replicate_zero, List.replicate_one, ← List.map_take, ← List.map_drop, List.drop_zero, List.take_succ_cons, List.take_zero, List.take_nil, List.drop_succ_cons, List.drop_nil, Nat.zero_le, Nat.le_refl, Nat.sub_zero, List.getElem?_cons_succ, List.getElem?_cons_zero, List.getElem?_nil, List.any_cons, List.any_nil, List.all_cons, List.all_nil, List.append_nil, List.nil_append, List.cons_append, List.set_cons_zero, List.set_cons_succ,
    cond_true, cond_false, decide_true, decide_false, Bool.true_and, Bool.and_true, Bool.false_and, Bool.and_false, Bool.true_or, Bool.or_true, Bool.false_or, Bool.or_false, Bool.not_true, Bool.not_false, Bool.and_self, Bool.or_self, bT, bF, ieq, ine, decide_eq_true_eq, decide_not,
    Nat.reduceEqDiff, Nat.reduceAdd, Nat.reduceSub, Nat.reduceMul, Nat.reduceLeDiff, Nat.reduceLT, Nat.zero_add, Nat.add_zero, Option.getD_some, Option.getD_none, Option.isSome_some, Option.isSome_none, reduceIte, reduceCtorEq, and_self, and_true, true_and, not_true_eq_false, not_false_eq_true, false_imp_iff, forall_const, imp_self,
    Int.reduceNeg, Int.reduceLT, Int.reduceLE, Int.reduceAdd, Int.reduceSub, Int.reduceMul, Int.reduceToNat, Int.reduceEq, ne_eq, eq_self, beq_self_eq_true]
  · obtain ⟨t, τ', ht, happ⟩ := app_bytes (xs := []) (ys := l) (L := .vec 1 [] .exact) (τ := []) (.inl ⟨rfl, .inr rfl⟩) h (by simp; omega)
    simp only [List.nil_append] at happ
    simp only [fi62, Tryd.f62, an62, cloneS, happ, ht, h, dp, T5, T34, e_seq, e_region, e_dyn, e_dynS, stepD, accs, accP, accW, simpleOp, isAl, isExt, List.flatten_cons, List.flatten_nil, e_block, e_cond, e_ret, e_skip, e_exit, e_plain, e_guard, e_nil, e_op, e_ifT, e_ifF, e_true, e_false, e_loop, e_l, e_top, e_seqN, e_seqE, e_seqR, e_blockN, e_blockR, e_blockE,
    e_finN, e_finX, e_finR, retV, resV, resL, outCL, outC, outL, outD, wantedV, opV, An.at_, prune, List.map_cons, List.map_nil, envOf, get, put, eval, ofV, nbeq, nble, binV, binV.aggV, unV, intV, eqOp, isConst, natV, optV, loadV, loadC, storeV, setC, St.at_, partV, indexAddrV, fieldAddrV, sliceV, sliceV.rowSl, sliceV.strSl, bounds, cutP,
    builtinV, lenV, maxL, maxV, St.elems, roomy, rowOf, rowS, isStr, esz, tdOf, convV, buildV, fillV, partsV, okParts, fillL, D.whole, D.demoteC, D.demote, demoteL, D.global, D.leaf, D.cells, TI.agg, TD.rowish, callOpV, CC, keepB, St.borrowL, St.borrow, D.isLsl, adoptR, adoptC, adoptCL, adoptL, adopt, upd,
    List.toArray, Array.toList, List.length_cons, List.length_nil, List.length_map, List.length_append, List.length_replicate, List.replicate_succ, List.replicate_zero, List.replicate_one, ← List.map_take, ← List.map_drop, List.drop_zero, List.take_succ_cons, List.take_zero, List.take_nil, List.drop_succ_cons, List.drop_nil, Nat.zero_le, Nat.le_refl, Nat.sub_zero, List.getElem?_cons_succ, List.getElem?_cons_zero, List.getElem?_nil, List.any_cons, List.any_nil, List.all_cons, List.all_nil, List.append_nil, List.nil_append, List.cons_append, List.set_cons_zero, List.set_cons_succ,
    cond_true, cond_false, decide_true, decide_false, Bool.true_and, Bool.and_true, Bool.false_and, Bool.and_false, Bool.true_or, Bool.or_true, Bool.false_or, Bool.or_false, Bool.not_true, Bool.not_false, Bool.and_self, Bool.or_self, bT, bF, ieq, ine, decide_eq_true_eq, decide_not,
    Nat.reduceEqDiff, Nat.reduceAdd, Nat.reduceSub, Nat.reduceMul, Nat.reduceLeDiff, Nat.reduceLT, Nat.zero_add, Nat.add_zero, Option.getD_some, Option.getD_none, Option.isSome_some, Option.isSome_none, reduceIte, reduceCtorEq, and_self, and_true, true_and, not_true_eq_false, not_false_eq_true, false_imp_iff, forall_const, imp_self,
    Int.reduceNeg, Int.reduceLT, Int.reduceLE, Int.reduceAdd, Int.reduceSub, Int.reduceMul, Int.reduceToNat, Int.reduceEq, ne_eq, eq_self, beq_self_eq_true]

/-! ### Put -/
def putS (v : Nat) : List UInt8 := if h : v < 128 then [UInt8.ofNat v] else UInt8.ofNat (128 + v % 128) :: putS (v / 128)
termination_by v
decreasing_by omega

theorem putS_small {v : Nat} (h : v < 128) : putS v = [UInt8.ofNat v] := by rw [putS]; simp [h]
theorem putS_big {v : Nat} (h : ¬ v < 128) : putS v = UInt8.ofNat (128 + v % 128) :: putS (v / 128) := by rw [putS]; simp [h]

theorem putS_len : ∀ (n v : Nat), v < 128 ^ n → 0 < n → (putS v).length ≤ n
  | 0, v, _, h => absurd h (by omega)
  | n + 1, v, hv, _ => by
    by_cases h : v < 128
    · rw [putS_small h]; simp
    · rw [putS_big h]
      have h2 : v / 128 < 128 ^ n := by rw [Nat.pow_succ] at hv; omega
      have hn : 0 < n := by
        rcases Nat.eq_zero_or_pos n with rfl | h3
        · simp at hv; omega
        · exact h3
      have := putS_len n (v / 128) h2 hn
      simp; omega

def st49 (v : Nat) (L : D) (τ : List Bool) (B : Hp) : St := ⟨[(1, .int .u64 v), (5, L)], [], τ, B⟩

set_option maxRecDepth 10000 in
theorem body49_end (C : Callees) (v : Nat) (L : D) (τ : List Bool) (B : Hp) (hv : v < 128) :
    ∃ ρ, go T an49 C lp49_0 .top (st49 v L τ B) = some (.exit 0, ⟨ρ, [], τ, B⟩) ∧ get ρ 1 = .int .u64 v ∧ get ρ 5 = L := by
  have h1 : ¬ (v : Int) ≥ 128 := by omega
  simp only [st49, lp49_0, subC, atC, Tryd.f49, an49, h1, T5, T34, T65, e_seq, e_region, e_dyn, e_dynS, stepD, accs, accP, accW, simpleOp, isAl, isExt, List.flatten_cons, List.flatten_nil, e_block, e_cond, e_ret, e_skip, e_exit, e_plain, e_guard, e_nil, e_op, e_ifT, e_ifF, e_true, e_false, e_loop, e_l, e_top, e_seqN, e_seqE, e_seqR, e_blockN, e_blockR, e_blockE,
    e_finN, e_finX, e_finR, retV, resV, resL, outCL, outC, outL, outD, wantedV, opV, An.at_, prune, List.map_cons, List.map_nil, envOf, get, put, eval, ofV, nbeq, nble, binV, binV.aggV, unV, intV, eqOp, isConst, natV, optV, loadV, loadC, storeV, setC, St.at_, partV, indexAddrV, fieldAddrV, sliceV, sliceV.rowSl, sliceV.strSl, bounds, cutP,
    builtinV, lenV, maxL, maxV, appendV, St.elems, roomy, rowOf, rowS, isStr, esz, tdOf, convV, buildV, fillV, partsV, okParts, fillL, D.whole, D.demoteC, D.demote, demoteL, D.global, D.leaf, D.cells, TI.agg, TD.rowish, callOpV, CC, keepB, St.borrowL, St.borrow, D.isLsl, adoptR, adoptC, adoptCL, adoptL, adopt, upd,
    List.toArray, Array.toList, List.length_cons, List.length_nil, List.length_map, List.length_append, List.length_replicate, List.replicate_succ, List.replicate_zero, List.replicate_one, ← List.map_take, ← List.map_drop, List.drop_zero, List.take_succ_cons, List.take_zero, List.take_nil, List.drop_succ_cons, List.drop_nil, Nat.zero_le, Nat.le_refl, Nat.sub_zero, List.getElem?_cons_succ, List.getElem?_cons_zero, List.getElem?_nil, List.any_cons, List.any_nil, List.all_cons, List.all_nil, List.append_nil, List.nil_append, List.cons_append, List.set_cons_zero, List.set_cons_succ,
    cond_true, cond_false, decide_true, decide_false, Bool.true_and, Bool.and_true, Bool.false_and, Bool.and_false, Bool.true_or, Bool.or_true, Bool.false_or, Bool.or_false, Bool.not_true, Bool.not_false, Bool.and_self, Bool.or_self, bT, bF, ieq, ine, decide_eq_true_eq, decide_not,
    Nat.reduceEqDiff, Nat.reduceAdd, Nat.reduceSub, Nat.reduceMul, Nat.reduceLeDiff, Nat.reduceLT, Nat.zero_add, Nat.add_zero, Option.getD_some, Option.getD_none, Option.isSome_some, Option.isSome_none, reduceIte, reduceCtorEq, and_self, and_true, true_and, not_true_eq_false, not_false_eq_true, false_imp_iff, forall_const, imp_self,
    Int.reduceNeg, Int.reduceLT, Int.reduceLE, Int.reduceAdd, Int.reduceSub, Int.reduceMul, Int.reduceToNat, Int.reduceEq, ne_eq, eq_self, beq_self_eq_true]
  exact ⟨_, rfl, rfl, rfl⟩

theorem or_128 (v : Nat) : bitsV .or .u8 (IntKind.u8.wrap (v : Int)) 128 = ((128 + v % 128 : Nat) : Int) := by
  rw [wrap_u8_mod]
  have e1 : (v : Int) % 256 = ((v % 256 : Nat) : Int) := by omega
  have e2 : (128 : Int) = ((128 : Nat) : Int) := rfl
  rw [e1, e2, bits_nat rfl _ _ _ (by show v % 256 < 2 ^ 8; omega) (by show 128 < 2 ^ 8; omega)]
  simp only []
  have hdec : ∀ x : Fin 256, (x.val ||| 128) = 128 + x.val % 128 := of_decide_eq_true (by kernel_rfl)
  have := hdec ⟨v % 256, by omega⟩
  simp only at this
  rw [this, show v % 256 % 128 = v % 128 by omega]

theorem shr_7 (v : Nat) : shrV .u64 (v : Int) 7 = ((v / 128 : Nat) : Int) := by
  simp [shrV, IntKind.bits, Int.fdiv_eq_ediv_of_nonneg]

theorem toNat_lo (v : Nat) : ((UInt8.ofNat (128 + v % 128)).toNat : Int) = ((128 + v % 128 : Nat) : Int) := by
  simp; omega

set_option maxRecDepth 10000 in
theorem body49_ok (C : Callees) (v : Nat) (xs : List UInt8) (L : D) (τ : List Bool) (B : Hp) (hv : ¬ v < 128) (hL : LB xs L τ) (hx : xs.length ≤ 200000) :
    ∃ ρ t τ', go T an49 C lp49_0 .top (st49 v L τ B) = some (.norm, ⟨ρ, [], τ', B⟩) ∧ τ'[t]? = some true ∧
      an49.at_ (some 2) ⟨ρ, [], τ', B⟩ = st49 (v / 128) (.vec 1 ((xs ++ [UInt8.ofNat (128 + v % 128)]).map byteD) (.own t)) τ' B := by
  have h1 : (v : Int) ≥ 128 := by omega
  obtain ⟨t, τ', ht, happ⟩ := app_bytes (ys := [UInt8.ofNat (128 + v % 128)]) hL (by simp) (by simp; omega)
  simp only [List.map_cons, List.map_nil, byteD, toNat_lo] at happ
  simp only [st49, lp49_0, subC, atC, Tryd.f49, an49, h1, or_128, shr_7, happ, T5, T34, T65, e_seq, e_region, e_dyn, e_dynS, stepD, accs, accP, accW, simpleOp, isAl, isExt, List.flatten_cons, List.flatten_nil, e_block, e_cond, e_ret, e_skip, e_exit, e_plain, e_guard, e_nil, e_op, e_ifT, e_ifF, e_true, e_false, e_loop, e_l, e_top, e_seqN, e_seqE, e_seqR, e_blockN, e_blockR, e_blockE,
    e_finN, e_finX, e_finR, retV, resV, resL, outCL, outC, outL, outD, wantedV, opV, An.at_, prune, List.map_cons, List.map_nil, envOf, get, put, eval, ofV, nbeq, nble, binV, binV.aggV, unV, intV, eqOp, isConst, natV, optV, loadV, loadC, storeV, setC, St.at_, partV, indexAddrV, fieldAddrV, sliceV, sliceV.rowSl, sliceV.strSl, bounds, cutP,
    builtinV, lenV, maxL, maxV, St.elems, roomy, rowOf, rowS, isStr, esz, tdOf, convV, buildV, fillV, partsV, okParts, fillL, D.whole, D.demoteC, D.demote, demoteL, D.global, D.leaf, D.cells, TI.agg, TD.rowish, callOpV, CC, keepB, St.borrowL, St.borrow, D.isLsl, adoptR, adoptC, adoptCL, adoptL, adopt, upd,
    List.toArray, Array.toList, List.length_cons, List.length_nil, List.length_map, List.length_append, List.length_replicate, List.replicate_succ, List.replicate_zero, List.replicate_one, ← List.map_take, ← List.map_drop, List.drop_zero, List.take_succ_cons, List.take_zero, List.take_nil, List.drop_succ_cons, List.drop_nil, Nat.zero_le, Nat.le_refl, Nat.sub_zero, List.getElem?_cons_succ, List.getElem?_cons_zero, List.getElem?_nil, List.any_cons, List.any_nil, List.all_cons, List.all_nil, List.append_nil, List.nil_append, List.cons_append, List.set_cons_zero, List.set_cons_succ,
    cond_true, cond_false, decide_true, decide_false, Bool.true_and, Bool.and_true, Bool.false_and, Bool.and_false, Bool.true_or, Bool.or_true, Bool.false_or, Bool.or_false, Bool.not_true, Bool.not_false, Bool.and_self, Bool.or_self, bT, bF, ieq, ine, decide_eq_true_eq, decide_not,
    Nat.reduceEqDiff, Nat.reduceAdd, Nat.reduceSub, Nat.reduceMul, Nat.reduceLeDiff, Nat.reduceLT, Nat.zero_add, Nat.add_zero, Option.getD_some, Option.getD_none, Option.isSome_some, Option.isSome_none, reduceIte, reduceCtorEq, and_self, and_true, true_and, not_true_eq_false, not_false_eq_true, false_imp_iff, forall_const, imp_self,
    Int.reduceNeg, Int.reduceLT, Int.reduceLE, Int.reduceAdd, Int.reduceSub, Int.reduceMul, Int.reduceToNat, Int.reduceEq, ne_eq, eq_self, beq_self_eq_true]
  exact ⟨_, t, _, rfl, ht, rfl⟩

theorem loop49 (C : Callees) (B : Hp) : ∀ (n v : Nat) (xs : List UInt8) (L : D) (τ : List Bool) (st : St), v < 128 ^ n → 0 < n → LB xs L τ → xs.length + n ≤ 200000 → an49.at_ (some 2) st = st49 v L τ B →
    ∃ x st', loopC T an49 C lp49_0 st = some (x, st') ∧ ∃ ρ τ' w ys M, st' = ⟨ρ, [], τ', B⟩ ∧ x = .exit 0 ∧ w < 128 ∧ LB ys M τ' ∧ ys.length ≤ 200000 ∧ get ρ 1 = .int .u64 (w : Nat) ∧ get ρ 5 = M ∧ ys ++ [UInt8.ofNat w] = xs ++ putS v := by
  intro n
  induction n with
  | zero => intro v xs L τ st _ h; omega
  | succ n ih =>
    intro v xs L τ st hv _ hL hx hst
    by_cases h : v < 128
    · obtain ⟨ρ, h1, hg1, hg2⟩ := body49_end C v L τ B h
      exact ⟨_, _, loopC_done (by rw [show firstOf lp49_0 = some 2 from rfl, hst]; exact h1) (by simp), ρ, τ, v, xs, L, rfl, rfl, h, hL, by omega, hg1, hg2, by rw [putS_small h]⟩
    · obtain ⟨ρ, t, τ', h1, ht, hg⟩ := body49_ok C v xs L τ B h hL (by omega)
      have h2 : v / 128 < 128 ^ n := by rw [Nat.pow_succ] at hv; omega
      have hn : 0 < n := by
        rcases Nat.eq_zero_or_pos n with rfl | h3
        · simp at hv; omega
        · exact h3
      obtain ⟨x, st', h4, ρ', τ2, w, ys, M, h5, h6, h7, h8, h9, h10, h11, h12⟩ := ih (v / 128) _ _ τ' ⟨ρ, [], τ', B⟩ h2 hn (LB.own ht) (by simp; omega) hg
      refine ⟨x, st', loopC_next (by rw [show firstOf lp49_0 = some 2 from rfl, hst]; exact h1) h4, ρ', τ2, w, ys, M, h5, h6, h7, h8, h9, h10, h11, ?_⟩
      rw [h12, putS_big h]; simp

theorem pow_10 {v : Nat} (h : v < 18446744073709551616) : v < 128 ^ 10 := Nat.lt_of_lt_of_le h (by decide)

set_option maxRecDepth 10000 in
theorem run49 (C : Callees) (hc : ∀ (l : List UInt8) (p : Perm) (B : Hp), l.length ≤ 100000 → C 62 [.vec 1 (l.map byteD) p] B = some (cloneS l, B)) (hn : ∀ B, C 62 [.nilsl] B = some (.nilsl, B))
    (d : D) (l : List UInt8) (hd : ByD d l) (v : Nat) (hv : v < 18446744073709551616) (B : Hp) (hl : l.length ≤ 100000) :
    runV T C fi49 [d, .int .u64 v] B = some (.vec 1 ((l ++ putS v).map byteD) .fresh, B) := by
  have main : ∀ (L : D) (τ : List Bool) (st : St), LB l L τ → an49.at_ (some 2) st = st49 v L τ B → ∃ x st', loopC T an49 C lp49_0 st = some (x, st') ∧ ∃ ρ τ' w ys M, st' = ⟨ρ, [], τ', B⟩ ∧ x = .exit 0 ∧ w < 128 ∧ LB ys M τ' ∧ ys.length ≤ 200000 ∧ get ρ 1 = .int .u64 (w : Nat) ∧ get ρ 5 = M ∧ ys ++ [UInt8.ofNat w] = l ++ putS v :=
    fun L τ st hL hst => loop49 C B 10 v l L τ st (pow_10 hv) (by omega) hL (by omega) hst
  have tail : ∀ {w : Nat} {ys : List UInt8} {M : D} {τ' : List Bool}, w < 128 → LB ys M τ' → ys.length ≤ 200000 → ys ++ [UInt8.ofNat w] = l ++ putS v → IntKind.u8.wrap (w : Int) = w ∧ ∃ t τ2, τ2[t]? = some true ∧ ∀ ρ M_1 B, appendV 1 1 ⟨ρ, M_1, τ', B⟩ M [.int .u8 w] = some (.vec 1 ((l ++ putS v).map byteD) (.own t), ⟨ρ, M_1, τ2, B⟩) := by
    intro w ys M τ' hw hL hy he
    obtain ⟨t, τ2, ht, happ⟩ := app_bytes (ys := [UInt8.ofNat w]) hL (by simp) (by simp; omega)
    have hto : ((UInt8.ofNat w).toNat : Int) = w := by simp; omega
    rw [he] at happ
    simp only [List.map_cons, List.map_nil, byteD, hto] at happ
    exact ⟨wrap_u8 (by omega) (by omega), t, τ2, ht, happ⟩
  rw [e_run _ _ _ rfl]
  rcases hd with ⟨rfl, rfl⟩ | ⟨p, rfl⟩
  · simp only [fi49, Tryd.f49, an49, hn, T5, T34, T65, e_seq, e_region, e_dyn, e_dynS, stepD, accs, accP, accW, simpleOp, isAl, isExt, List.flatten_cons, List.flatten_nil, e_block, e_cond, e_ret, e_skip, e_exit, e_plain, e_guard, e_nil, e_op, e_ifT, e_ifF, e_true, e_false, e_loop, e_l, e_top, e_seqN, e_seqE, e_seqR, e_blockN, e_blockR, e_blockE,
    e_finN, e_finX, e_finR, retV, resV, resL, outCL, outC, outL, outD, wantedV, opV, An.at_, prune, List.map_cons, List.map_nil, envOf, get, put, eval, ofV, nbeq, nble, binV, binV.aggV, unV, intV, eqOp, isConst, natV, optV, loadV, loadC, storeV, setC, St.at_, partV, indexAddrV, fieldAddrV, sliceV, sliceV.rowSl, sliceV.strSl, bounds, cutP,
    builtinV, lenV, maxL, maxV, appendV, St.elems, roomy, rowOf, rowS, isStr, esz, tdOf, convV, buildV, fillV, partsV, okParts, fillL, D.whole, D.demoteC, D.demote, demoteL, D.global, D.leaf, D.cells, TI.agg, TD.rowish, callOpV, CC, keepB, St.borrowL, St.borrow, D.isLsl, adoptR, adoptC, adoptCL, adoptL, adopt, upd,
    List.toArray, Array.toList, List.length_cons, List.length_nil, List.length_map, List.length_append, List.length_replicate, List.replicate_succ, List.replicate_zero, List.replicate_one, ← List.map_take, ← List.map_drop, List.drop_zero, List.take_succ_cons, List.take_zero, List.take_nil, List.drop_succ_cons, List.drop_nil, Nat.zero_le, Nat.le_refl, Nat.sub_zero, List.getElem?_cons_succ, List.getElem?_cons_zero, List.getElem?_nil, List.any_cons, List.any_nil, List.all_cons, List.all_nil, List.append_nil, List.nil_append, List.cons_append, List.set_cons_zero, List.set_cons_succ,
    cond_true, cond_false, decide_true, decide_false, Bool.true_and, Bool.and_true, Bool.false_and, Bool.and_false, Bool.true_or, Bool.or_true, Bool.false_or, Bool.or_false, Bool.not_true, Bool.not_false, Bool.and_self, Bool.or_self, bT, bF, ieq, ine, decide_eq_true_eq, decide_not,
    Nat.reduceEqDiff, Nat.reduceAdd, Nat.reduceSub, Nat.reduceMul, Nat.reduceLeDiff, Nat.reduceLT, Nat.zero_add, Nat.add_zero, Option.getD_some, Option.getD_none, Option.isSome_some, Option.isSome_none, reduceIte, reduceCtorEq, and_self, and_true, true_and, not_true_eq_false, not_false_eq_true, false_imp_iff, forall_const, imp_self,
    Int.reduceNeg, Int.reduceLT, Int.reduceLE, Int.reduceAdd, Int.reduceSub, Int.reduceMul, Int.reduceToNat, Int.reduceEq, ne_eq, eq_self, beq_self_eq_true]
    refine' in_loop (c' := lp49_0) (fin T _) (main .nilsl [] _ (.inl ⟨rfl, .inl rfl⟩) rfl) rfl ?_
    rintro x st' ⟨ρ, τ', w, ys, M, rfl, rfl, hw, hL, hy, hg1, hg2, he⟩
    obtain ⟨hw8, t, τ2, ht, happ⟩ := tail hw hL hy he
    simp only [hg1, hg2, hw8, happ, ht, T5, T34, T65, e_seq, e_region, e_dyn, e_dynS, stepD, accs, accP, accW, simpleOp, isAl, isExt, List.flatten_cons, List.flatten_nil, e_block, e_cond, e_ret, e_skip, e_exit, e_plain, e_guard, e_nil, e_op, e_ifT, e_ifF, e_true, e_false, e_loop, e_l, e_top, e_seqN, e_seqE, e_seqR, e_blockN, e_blockR, e_blockE,
    e_finN, e_finX, e_finR, retV, resV, resL, outCL, outC, outL, outD, wantedV, opV, An.at_, prune, List.map_cons, List.map_nil, envOf, get, put, eval, ofV, nbeq, nble, binV, binV.aggV, unV, intV, eqOp, isConst, natV, optV, loadV, loadC, storeV, setC, St.at_, partV, indexAddrV, fieldAddrV, sliceV, sliceV.rowSl, sliceV.strSl, bounds, cutP,
    builtinV, lenV, maxL, maxV, St.elems, roomy, rowOf, rowS, isStr, esz, tdOf, convV, buildV, fillV, partsV, okParts, fillL, D.whole, D.demoteC, D.demote, demoteL, D.global, D.leaf, D.cells, TI.agg, TD.rowish, callOpV, CC, keepB, St.borrowL, St.borrow, D.isLsl, adoptR, adoptC, adoptCL, adoptL, adopt, upd,
    List.toArray, Array.toList, List.length_cons, List.length_nil, List.length_map, List.length_append, List.length_replicate, List.replicate_succ, List.replicate_zero, List.replicate_one, ← List.map_take, ← List.map_drop, List.drop_zero, List.take_succ_cons, List.take_zero, List.take_nil, List.drop_succ_cons, List.drop_nil, Nat.zero_le, Nat.le_refl, Nat.sub_zero, List.getElem?_cons_succ, List.getElem?_cons_zero, List.getElem?_nil, List.any_cons, List.any_nil, List.all_cons, List.all_nil, List.append_nil, List.nil_append, List.cons_append, List.set_cons_zero, List.set_cons_succ,
    cond_true, cond_false, decide_true, decide_false, Bool.true_and, Bool.and_true, Bool.false_and, Bool.and_false, Bool.true_or, Bool.or_true, Bool.false_or, Bool.or_false, Bool.not_true, Bool.not_false, Bool.and_self, Bool.or_self, bT, bF, ieq, ine, decide_eq_true_eq, decide_not,
    Nat.reduceEqDiff, Nat.reduceAdd, Nat.reduceSub, Nat.reduceMul, Nat.reduceLeDiff, Nat.reduceLT, Nat.zero_add, Nat.add_zero, Option.getD_some, Option.getD_none, Option.isSome_some, Option.isSome_none, reduceIte, reduceCtorEq, and_self, and_true, true_and, not_true_eq_false, not_false_eq_true, false_imp_iff, forall_const, imp_self,
    Int.reduceNeg, Int.reduceLT, Int.reduceLE, Int.reduceAdd, Int.reduceSub, Int.reduceMul, Int.reduceToNat, Int.reduceEq, ne_eq, eq_self, beq_self_eq_true]
  · have hcl := hc l (dp p) B hl
    by_cases h : l = []
    · subst h
      simp only [cloneS, if_true, List.map_nil] at hcl
      simp only [fi49, Tryd.f49, an49, hcl, T5, T34, T65, e_seq, e_region, e_dyn, e_dynS, stepD, accs, accP, accW, simpleOp, isAl, isExt, List.flatten_cons, List.flatten_nil, e_block, e_cond, e_ret, e_skip, e_exit, e_plain, e_guard, e_nil, e_op, e_ifT, e_ifF, e_true, e_false, e_loop, e_l, e_top, e_seqN, e_seqE, e_seqR, e_blockN, e_blockR, e_blockE,
    e_finN, e_finX, e_finR, retV, resV, resL, outCL, outC, outL, outD, wantedV, opV, An.at_, prune, List.map_cons, List.map_nil, envOf, get, put, eval, ofV, nbeq, nble, binV, binV.aggV, unV, intV, eqOp, isConst, natV, optV, loadV, loadC, storeV, setC, St.at_, partV, indexAddrV, fieldAddrV, sliceV, sliceV.rowSl, sliceV.strSl, bounds, cutP,
    builtinV, lenV, maxL, maxV, appendV, St.elems, roomy, rowOf, rowS, isStr, esz, tdOf, convV, buildV, fillV, partsV, okParts, fillL, D.whole, D.demoteC, D.demote, demoteL, D.global, D.leaf, D.cells, TI.agg, TD.rowish, callOpV, CC, keepB, St.borrowL, St.borrow, D.isLsl, adoptR, adoptC, adoptCL, adoptL, adopt, upd,
    List.toArray, Array.toList, List.length_cons, List.length_nil, List.length_map, List.length_append, List.length_replicate, List.replicate_succ, List.replicate_zero, List.replicate_one, ← List.map_take, ← List.map_drop, List.drop_zero, List.take_succ_cons, List.take_zero, List.take_nil, List.drop_succ_cons, List.drop_nil, Nat.zero_le, Nat.le_refl, Nat.sub_zero, List.getElem?_cons_succ, List.getElem?_cons_zero, List.getElem?_nil, List.any_cons, List.any_nil, List.all_cons, List.all_nil, List.append_nil, List.nil_append, List.cons_append, List.set_cons_zero, List.set_cons_succ,
    cond_true, cond_false, decide_true, decide_false, Bool.true_and, Bool.and_true, Bool.false_and, Bool.and_false, Bool.true_or, Bool.or_true, Bool.false_or, Bool.or_false, Bool.not_true, Bool.not_false, Bool.and_self, Bool.or_self, bT, bF, ieq, ine, decide_eq_true_eq, decide_not,
    Nat.reduceEqDiff, Nat.reduceAdd, Nat.reduceSub, Nat.reduceMul, Nat.reduceLeDiff, Nat.reduceLT, Nat.zero_add, Nat.add_zero, Option.getD_some, Option.getD_none, Option.isSome_some, Option.isSome_none, reduceIte, reduceCtorEq, and_self, and_true, true_and, not_true_eq_false, not_false_eq_true, false_imp_iff, forall_const, imp_self,
    Int.reduceNeg, Int.reduceLT, Int.reduceLE, Int.reduceAdd, Int.reduceSub, Int.reduceMul, Int.reduceToNat, Int.reduceEq, ne_eq, eq_self, beq_self_eq_true]
      refine' in_loop (c' := lp49_0) (fin T _) (main (.vec 1 [] .exact) [] _ (.inl ⟨rfl, .inr rfl⟩) rfl) rfl ?_
      rintro x st' ⟨ρ, τ', w, ys, M, rfl, rfl, hw, hL, hy, hg1, hg2, he⟩
      obtain ⟨hw8, t, τ2, ht, happ⟩ := tail hw hL hy he
      simp only [hg1, hg2, hw8, happ, ht, T5, T34, T65, e_seq, e_region, e_dyn, e_dynS, stepD, accs, accP, accW, simpleOp, isAl, isExt, List.flatten_cons, List.flatten_nil, e_block, e_cond, e_ret, e_skip, e_exit, e_plain, e_guard, e_nil, e_op, e_ifT, e_ifF, e_true, e_false, e_loop, e_l, e_top, e_seqN, e_seqE, e_seqR, e_blockN, e_blockR, e_blockE,
    e_finN, e_finX, e_finR, retV, resV, resL, outCL, outC, outL, outD, wantedV, opV, An.at_, prune, List.map_cons, List.map_nil, envOf, get, put, eval, ofV, nbeq, nble, binV, binV.aggV, unV, intV, eqOp, isConst, natV, optV, loadV, loadC, storeV, setC, St.at_, partV, indexAddrV, fieldAddrV, sliceV, sliceV.rowSl, sliceV.strSl, bounds, cutP,
    builtinV, lenV, maxL, maxV, St.elems, roomy, rowOf, rowS, isStr, esz, tdOf, convV, buildV, fillV, partsV, okParts, fillL, D.whole, D.demoteC, D.demote, demoteL, D.global, D.leaf, D.cells, TI.agg, TD.rowish, callOpV, CC, keepB, St.borrowL, St.borrow, D.isLsl, adoptR, adoptC, adoptCL, adoptL, adopt, upd,
    List.toArray, Array.toList, List.length_cons, List.length_nil, List.length_map, List.length_append, List.length_replicate, List.replicate_succ, List.replicate_zero, List.replicate_one, ← List.map_take, ← List.map_drop, List.drop_zero, List.take_succ_cons, List.take_zero, List.take_nil, List.drop_succ_cons, List.drop_nil, Nat.zero_le, Nat.le_refl, Nat.sub_zero, List.getElem?_cons_succ, List.getElem?_cons_zero, List.getElem?_nil, List.any_cons, List.any_nil, List.all_cons, List.all_nil, List.append_nil, List.nil_append, List.cons_append, List.set_cons_zero, List.set_cons_succ,
    cond_true, cond_false, decide_true, decide_false, Bool.true_and, Bool.and_true, Bool.false_and, Bool.and_false, Bool.true_or, Bool.or_true, Bool.false_or, Bool.or_false, Bool.not_true, Bool.not_false, Bool.and_self, Bool.or_self, bT, bF, ieq, ine, decide_eq_true_eq, decide_not,
    Nat.reduceEqDiff, Nat.reduceAdd, Nat.reduceSub, Nat.reduceMul, Nat.reduceLeDiff, Nat.reduceLT, Nat.zero_add, Nat.add_zero, Option.getD_some, Option.getD_none, Option.isSome_some, Option.isSome_none, reduceIte, reduceCtorEq, and_self, and_true, true_and, not_true_eq_false, not_false_eq_true, false_imp_iff, forall_const, imp_self,
    Int.reduceNeg, Int.reduceLT, Int.reduceLE, Int.reduceAdd, Int.reduceSub, Int.reduceMul, Int.reduceToNat, Int.reduceEq, ne_eq, eq_self, beq_self_eq_true]
    · simp only [cloneS, h, if_false] at hcl
      simp only [fi49, Tryd.f49, an49, hcl, T5, T34, T65, e_seq, e_region, e_dyn, e_dynS, stepD, accs, accP, accW, simpleOp, isAl, isExt, List.flatten_cons, List.flatten_nil, e_block, e_cond, e_ret, e_skip, e_exit, e_plain, e_guard, e_nil, e_op, e_ifT, e_ifF, e_true, e_false, e_loop, e_l, e_top, e_seqN, e_seqE, e_seqR, e_blockN, e_blockR, e_blockE,
    e_finN, e_finX, e_finR, retV, resV, resL, outCL, outC, outL, outD, wantedV, opV, An.at_, prune, List.map_cons, List.map_nil, envOf, get, put, eval, ofV, nbeq, nble, binV, binV.aggV, unV, intV, eqOp, isConst, natV, optV, loadV, loadC, storeV, setC, St.at_, partV, indexAddrV, fieldAddrV, sliceV, sliceV.rowSl, sliceV.strSl, bounds, cutP,
    builtinV, lenV, maxL, maxV, appendV, St.elems, roomy, rowOf, rowS, isStr, esz, tdOf, convV, buildV, fillV, partsV, okParts, fillL, D.whole, D.demoteC, D.demote, demoteL, D.global, D.leaf, D.cells, TI.agg, TD.rowish, callOpV, CC, keepB, St.borrowL, St.borrow, D.isLsl, adoptR, adoptC, adoptCL, adoptL, adopt, upd,
    List.toArray, Array.toList, List.length_cons, List.length_nil, List.length_map, List.length_append, List.length_replicate, List.replicate_succ, List.replicate_zero, List.replicate_one, ← List.map_take, ← List.map_drop, List.drop_zero, List.take_succ_cons, List.take_zero, List.take_nil, List.drop_succ_cons, List.drop_nil, Nat.zero_le, Nat.le_refl, Nat.sub_zero, List.getElem?_cons_succ, List.getElem?_cons_zero, List.getElem?_nil, List.any_cons, List.any_nil, List.all_cons, List.all_nil, List.append_nil, List.nil_append, List.cons_append, List.set_cons_zero, List.set_cons_succ,
    cond_true, cond_false, decide_true, decide_false, Bool.true_and, Bool.and_true, Bool.false_and, Bool.and_false, Bool.true_or, Bool.or_true, Bool.false_or, Bool.or_false, Bool.not_true, Bool.not_false, Bool.and_self, Bool.or_self, bT, bF, ieq, ine, decide_eq_true_eq, decide_not,
    Nat.reduceEqDiff, Nat.reduceAdd, Nat.reduceSub, Nat.reduceMul, Nat.reduceLeDiff, Nat.reduceLT, Nat.zero_add, Nat.add_zero, Option.getD_some, Option.getD_none, Option.isSome_some, Option.isSome_none, reduceIte, reduceCtorEq, and_self, and_true, true_and, not_true_eq_false, not_false_eq_true, false_imp_iff, forall_const, imp_self,
    Int.reduceNeg, Int.reduceLT, Int.reduceLE, Int.reduceAdd, Int.reduceSub, Int.reduceMul, Int.reduceToNat, Int.reduceEq, ne_eq, eq_self, beq_self_eq_true]
      refine' in_loop (c' := lp49_0) (fin T _) (main (.vec 1 (l.map byteD) (.own 0)) [true] _ (LB.own rfl) rfl) rfl ?_
      rintro x st' ⟨ρ, τ', w, ys, M, rfl, rfl, hw, hL, hy, hg1, hg2, he⟩
      obtain ⟨hw8, t, τ2, ht, happ⟩ := tail hw hL hy he
      simp only [hg1, hg2, hw8, happ, ht, T5, T34, T65, e_seq, e_region, e_dyn, e_dynS, stepD, accs, accP, accW, simpleOp, isAl, isExt, List.flatten_cons, List.flatten_nil, e_block, e_cond, e_ret, e_skip, e_exit, e_plain, e_guard, e_nil, e_op, e_ifT, e_ifF, e_true, e_false, e_loop, e_l, e_top, e_seqN, e_seqE, e_seqR, e_blockN, e_blockR, e_blockE,
    e_finN, e_finX, e_finR, retV, resV, resL, outCL, outC, outL, outD, wantedV, opV, An.at_, prune, List.map_cons, List.map_nil, envOf, get, put, eval, ofV, nbeq, nble, binV, binV.aggV, unV, intV, eqOp, isConst, natV, optV, loadV, loadC, storeV, setC, St.at_, partV, indexAddrV, fieldAddrV, sliceV, sliceV.rowSl, sliceV.strSl, bounds, cutP,
    builtinV, lenV, maxL, maxV, St.elems, roomy, rowOf, rowS, isStr, esz, tdOf, convV, buildV, fillV, partsV, okParts, fillL, D.whole, D.demoteC, D.demote, demoteL, D.global, D.leaf, D.cells, TI.agg, TD.rowish, callOpV, CC, keepB, St.borrowL, St.borrow, D.isLsl, adoptR, adoptC, adoptCL, adoptL, adopt, upd,
    List.toArray, Array.toList, List.length_cons, List.length_nil, List.length_map, List.length_append, List.length_replicate, List.replicate_succ, List.replicate_zero, List.replicate_one, ← List.map_take, ← List.map_drop, List.drop_zero, List.take_succ_cons, List.take_zero, List.take_nil, List.drop_succ_cons, List.drop_nil, Nat.zero_le, Nat.le_refl, Nat.sub_zero, List.getElem?_cons_succ, List.getElem?_cons_zero, List.getElem?_nil, List.any_cons, List.any_nil, List.all_cons, List.all_nil, List.append_nil, List.nil_append, List.cons_append, List.set_cons_zero, List.set_cons_succ,
    cond_true, cond_false, decide_true, decide_false, Bool.true_and, Bool.and_true, Bool.false_and, Bool.and_false, Bool.true_or, Bool.or_true, Bool.false_or, Bool.or_false, Bool.not_true, Bool.not_false, Bool.and_self, Bool.or_self, bT, bF, ieq, ine, decide_eq_true_eq, decide_not,
    Nat.reduceEqDiff, Nat.reduceAdd, Nat.reduceSub, Nat.reduceMul, Nat.reduceLeDiff, Nat.reduceLT, Nat.zero_add, Nat.add_zero, Option.getD_some, Option.getD_none, Option.isSome_some, Option.isSome_none, reduceIte, reduceCtorEq, and_self, and_true, true_and, not_true_eq_false, not_false_eq_true, false_imp_iff, forall_const, imp_self,
    Int.reduceNeg, Int.reduceLT, Int.reduceLE, Int.reduceAdd, Int.reduceSub, Int.reduceMul, Int.reduceToNat, Int.reduceEq, ne_eq, eq_self, beq_self_eq_true]

end Go.Proofs.YtdmlojinmkcldaaDoor.V
