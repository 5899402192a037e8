/-
Layer 2: CrcMixes.
-/
import Derived.Test.YtdmlojinmkcldaaDoorIE
namespace Go.Proofs.YtdmlojinmkcldaaDoor.V
open Go Go.RowKit
set_option linter.unusedSimpArgs false
set_option linter.unusedVariables false

/-! warren/warrenlaw02.CrcMixes -/
def an10 : An := ⟨fun | 4 => some [0, 1, 2, 7, 8, 9] | _ => .none, fun _ => false, fun _ => false, fun _ => .none⟩
noncomputable def fi10 : FI := ⟨3, 61, Tryd.f10.body.getD .skip, Tryd.f10.results.toList, an10⟩
theorem ok10 : FnOk Tryd.prog 10 fi10 := ⟨⟨Tryd.f10, Tryd.func10, by kernel_rfl, rfl, rfl, rfl⟩, by decide, by kernel_rfl⟩
noncomputable def lp10_0 : Code := subC [1, 1, 1, 0, 1, 0, 0] (Tryd.f10.body.getD .skip)   -- keep [0, 1, 2, 7, 8, 9]

theorem xor3_get : ∀ (a b c : List UInt8) (i : Nat) (x y z : UInt8), a[i]? = some x → b[i]? = some y → c[i]? = some z → (xor3 a b c)[i]? = some (x ^^^ y ^^^ z)
  | [], _, _, i, x, y, z, h, _, _ => by simp at h
  | _ :: _, [], _, i, x, y, z, _, h, _ => by simp at h
  | _ :: _, _ :: _, [], i, x, y, z, _, _, h => by simp at h
  | p :: a, q :: b, r :: c, 0, x, y, z, h1, h2, h3 => by simp at h1 h2 h3; subst h1; subst h2; subst h3; rfl
  | p :: a, q :: b, r :: c, i + 1, x, y, z, h1, h2, h3 => by
    simp only [xor3, List.getElem?_cons_succ] at h1 h2 h3 ⊢
    exact xor3_get a b c i x y z h1 h2 h3

theorem xor3_len : ∀ (a b c : List UInt8), a.length = b.length → b.length = c.length → (xor3 a b c).length = a.length
  | [], b, c, _, _ => by cases b <;> rfl
  | p :: a, [], c, h, _ => by simp at h
  | p :: a, q :: b, [], _, h => by simp at h
  | p :: a, q :: b, r :: c, h1, h2 => by
    simp only [xor3, List.length_cons]
    rw [xor3_len a b c (by simpa using h1) (by simpa using h2)]

def st10 (d1 d2 d3 : D) (n i : Nat) (xs : List UInt8) (B : Hp) : St := ⟨[(0, d1), (1, d2), (2, d3), (7, .int .i64 n), (8, .lsl 0 0 n 1), (9, .int .i64 i)], [some (xs.map byteD)], [], B⟩

set_option maxRecDepth 10000 in
theorem body10_end (C : Callees) (d1 d2 d3 : D) (n : Nat) (xs : List UInt8) (B : Hp) :
    ∃ ρ, go T an10 C lp10_0 .top (st10 d1 d2 d3 n n xs B) = some (.exit 0, ⟨ρ, [some (xs.map byteD)], [], B⟩) ∧ get ρ 0 = d1 ∧ get ρ 1 = d2 ∧ get ρ 2 = d3 ∧ get ρ 7 = .int .i64 n ∧ get ρ 8 = .lsl 0 0 n 1 := by
  simp only [st10, lp10_0, subC, atC, Tryd.f10, an10, Int.lt_irrefl, T3, T5, T34, T57, e_seq, e_region, e_dyn, e_dynS, stepD, accs, accP, accW, simpleOp, isAl, isExt, flipD, D.fresh1, D.row, D.plain, D.plain.plainL, St.close, St.close1, St.borrow, thawV, D.plainU, List.flatten_cons, List.flatten_nil, e_block, e_cond, e_ret, e_skip, e_exit, e_plain, e_guard, e_nil, e_op, e_ifT, e_ifF, e_true, e_false, e_loop, e_l, e_top, e_seqN, e_seqE, e_seqR, e_blockN, e_blockR, e_blockE,
    e_finN, e_finX, e_finR, retV, resV, resL, outCL, outC, outL, outD, wantedV, opV, An.at_, prune, List.map_cons, List.map_nil, envOf, get, put, eval, ofV, nbeq, nble, binV, binV.aggV, unV, intV, eqOp, isConst, natV, optV, loadV, loadC, storeV, setC, St.at_, partV, indexAddrV, fieldAddrV, sliceV, sliceV.rowSl, sliceV.strSl, bounds, cutP,
    builtinV, lenV, maxL, maxV, appendV, St.elems, roomy, rowOf, rowS, isStr, esz, tdOf, convV, buildV, fillV, partsV, okParts, fillL, D.whole, D.demoteC, D.demote, demoteL, D.global, D.leaf, D.cells, TI.agg, TD.rowish, callOpV, CC, keepB, St.borrowL, St.borrow, D.isLsl, adoptR, adoptC, adoptCL, adoptL, adopt, upd,
    List.toArray, Array.toList, List.length_cons, List.length_nil, List.length_map, List.length_append, List.length_replicate, List.replicate_succ, List.replicate_zero, List.replicate_one, ← List.map_take, ← List.map_drop, List.drop_zero, List.take_succ_cons, List.take_zero, List.take_nil, List.drop_succ_cons, List.drop_nil, Nat.zero_le, Nat.le_refl, Nat.sub_zero, List.getElem?_cons_succ, List.getElem?_cons_zero, List.getElem?_nil, List.any_cons, List.any_nil, List.all_cons, List.all_nil, List.append_nil, List.nil_append, List.cons_append, List.set_cons_zero, List.set_cons_succ,
    cond_true, cond_false, decide_true, decide_false, Bool.true_and, Bool.and_true, Bool.false_and, Bool.and_false, Bool.true_or, Bool.or_true, Bool.false_or, Bool.or_false, Bool.not_true, Bool.not_false, Bool.and_self, Bool.or_self, bT, bF, ieq, ine, decide_eq_true_eq, decide_not,
    Nat.reduceEqDiff, Nat.reduceAdd, Nat.reduceSub, Nat.reduceMul, Nat.reduceLeDiff, Nat.reduceLT, Nat.zero_add, Nat.add_zero, Option.getD_some, Option.getD_none, Option.isSome_some, Option.isSome_none, reduceIte, reduceCtorEq, and_self, and_true, true_and, not_true_eq_false, not_false_eq_true, false_imp_iff, forall_const, imp_self,
    Int.reduceNeg, Int.reduceLT, Int.reduceLE, Int.reduceGT, Int.reduceGE, Int.reduceAdd, Int.reduceSub, Int.reduceMul, Int.reduceToNat, Int.reduceEq, ne_eq, eq_self, beq_self_eq_true]
  exact ⟨_, rfl, rfl, rfl, rfl, rfl, rfl⟩

set_option maxRecDepth 10000 in
set_option maxHeartbeats 2000000 in
theorem body10_ok (C : Callees) (a b c : List UInt8) (n i : Nat) (ys : List UInt8) (hys : ys.length = n) (x y z : UInt8) (hx : a[i]? = some x) (hy : b[i]? = some y) (hz : c[i]? = some z) (hv : ys[i]? = some (x ^^^ y ^^^ z)) (hi : i < n) (hn : n ≤ 300) (B : Hp) :
    ∃ ρ, go T an10 C lp10_0 .top (st10 (.vec 1 (a.map byteD) .none) (.vec 1 (b.map byteD) .none) (.vec 1 (c.map byteD) .none) n i (ys.take i ++ List.replicate (n - i) 0) B) = some (.norm, ⟨ρ, [some ((ys.take (i + 1) ++ List.replicate (n - (i + 1)) 0).map byteD)], [], B⟩) ∧
      an10.at_ (some 4) ⟨ρ, [some ((ys.take (i + 1) ++ List.replicate (n - (i + 1)) 0).map byteD)], [], B⟩ = st10 (.vec 1 (a.map byteD) .none) (.vec 1 (b.map byteD) .none) (.vec 1 (c.map byteD) .none) n (i + 1) (ys.take (i + 1) ++ List.replicate (n - (i + 1)) 0) B := by
  have g1 : (i : Int) < n := by omega
  have g2 : (0 : Int) ≤ i := by omega
  have g3 := wrapI (x := (i : Int) + 1) (by omega) (by omega)
  have g4 := xor_u8 x y
  have g5 := xor_u8 (x ^^^ y) z
  have g6 := setC_next ys n i hys _ hv
  have hle : i + 1 ≤ ((ys.take i ++ List.replicate (n - i) (0 : UInt8)).map byteD).length := by simp; omega
  generalize hxs : ys.take i ++ List.replicate (n - i) (0 : UInt8) = xs at g6 hle ⊢
  generalize hxs2 : ys.take (i + 1) ++ List.replicate (n - (i + 1)) (0 : UInt8) = xs2 at g6 ⊢
  rw [List.length_map] at hle
  simp only [st10, lp10_0, subC, atC, Tryd.f10, an10, g1, g2, g3, g4, g5, g6, hle, hi, Nat.mul_one, List.getElem?_map, Int.toNat_natCast, hx, hy, hz, Option.map_some, byteD, T3, T5, T34, T57, e_seq, e_region, e_dyn, e_dynS, stepD, accs, accP, accW, simpleOp, isAl, isExt, flipD, D.fresh1, D.row, D.plain, D.plain.plainL, St.close, St.close1, St.borrow, thawV, D.plainU, List.flatten_cons, List.flatten_nil, e_block, e_cond, e_ret, e_skip, e_exit, e_plain, e_guard, e_nil, e_op, e_ifT, e_ifF, e_true, e_false, e_loop, e_l, e_top, e_seqN, e_seqE, e_seqR, e_blockN, e_blockR, e_blockE,
    e_finN, e_finX, e_finR, retV, resV, resL, outCL, outC, outL, outD, wantedV, opV, An.at_, prune, List.map_cons, List.map_nil, envOf, get, put, eval, ofV, nbeq, nble, binV, binV.aggV, unV, intV, eqOp, isConst, natV, optV, loadV, loadC, storeV, St.at_, partV, indexAddrV, fieldAddrV, sliceV, sliceV.rowSl, sliceV.strSl, bounds, cutP,
    builtinV, lenV, maxL, maxV, appendV, St.elems, roomy, rowOf, rowS, isStr, esz, tdOf, convV, buildV, fillV, partsV, okParts, fillL, D.whole, D.demoteC, D.demote, demoteL, D.global, D.leaf, D.cells, TI.agg, TD.rowish, callOpV, CC, keepB, St.borrowL, St.borrow, D.isLsl, adoptR, adoptC, adoptCL, adoptL, adopt, upd,
    List.toArray, Array.toList, List.length_cons, List.length_nil, List.length_map, List.length_append, List.length_replicate, List.replicate_succ, List.replicate_zero, List.replicate_one, ← List.map_take, ← List.map_drop, List.drop_zero, List.take_succ_cons, List.take_zero, List.take_nil, List.drop_succ_cons, List.drop_nil, Nat.zero_le, Nat.le_refl, Nat.sub_zero, List.getElem?_cons_succ, List.getElem?_cons_zero, List.getElem?_nil, List.any_cons, List.any_nil, List.all_cons, List.all_nil, List.append_nil, List.nil_append, List.cons_append, List.set_cons_zero, List.set_cons_succ,
    cond_true, cond_false, decide_true, decide_false, Bool.true_and, Bool.and_true, Bool.false_and, Bool.and_false, Bool.true_or, Bool.or_true, Bool.false_or, Bool.or_false, Bool.not_true, Bool.not_false, Bool.and_self, Bool.or_self, bT, bF, ieq, ine, decide_eq_true_eq, decide_not,
    Nat.reduceEqDiff, Nat.reduceAdd, Nat.reduceSub, Nat.reduceMul, Nat.reduceLeDiff, Nat.reduceLT, Nat.zero_add, Nat.add_zero, Option.getD_some, Option.getD_none, Option.isSome_some, Option.isSome_none, reduceIte, reduceCtorEq, and_self, and_true, true_and, not_true_eq_false, not_false_eq_true, false_imp_iff, forall_const, imp_self,
    Int.reduceNeg, Int.reduceLT, Int.reduceLE, Int.reduceGT, Int.reduceGE, Int.reduceAdd, Int.reduceSub, Int.reduceMul, Int.reduceToNat, Int.reduceEq, ne_eq, eq_self, beq_self_eq_true]
  exact ⟨_, rfl, rfl⟩

theorem loop10 (C : Callees) (a b c : List UInt8) (n : Nat) (ha : n ≤ a.length) (hb : n ≤ b.length) (hc : n ≤ c.length) (hn : n ≤ 300) (B : Hp) : ∀ (m i : Nat) (st : St), n - i = m → i ≤ n →
    an10.at_ (some 4) st = st10 (.vec 1 (a.map byteD) .none) (.vec 1 (b.map byteD) .none) (.vec 1 (c.map byteD) .none) n i ((xor3 (a.take n) (b.take n) (c.take n)).take i ++ List.replicate (n - i) 0) B →
    ∃ x st', loopC T an10 C lp10_0 st = some (x, st') ∧ ∃ ρ, st' = ⟨ρ, [some ((xor3 (a.take n) (b.take n) (c.take n)).map byteD)], [], B⟩ ∧ x = .exit 0 ∧ get ρ 0 = .vec 1 (a.map byteD) .none ∧ get ρ 1 = .vec 1 (b.map byteD) .none ∧ get ρ 2 = .vec 1 (c.map byteD) .none ∧ get ρ 7 = .int .i64 n ∧ get ρ 8 = .lsl 0 0 n 1 := by
  have hla : (a.take n).length = n := by simp; omega
  have hlb : (b.take n).length = n := by simp; omega
  have hlc : (c.take n).length = n := by simp; omega
  have hys : (xor3 (a.take n) (b.take n) (c.take n)).length = n := by rw [xor3_len _ _ _ (by omega) (by omega), hla]
  intro m
  induction m with
  | zero =>
    intro i st hm hi hst
    obtain rfl : i = n := by omega
    have e : (xor3 (a.take i) (b.take i) (c.take i)).take i ++ List.replicate (i - i) (0 : UInt8) = xor3 (a.take i) (b.take i) (c.take i) := by
      rw [List.take_of_length_le (by omega)]; simp
    rw [e] at hst
    obtain ⟨ρ, h, hg⟩ := body10_end C (.vec 1 (a.map byteD) .none) (.vec 1 (b.map byteD) .none) (.vec 1 (c.map byteD) .none) i (xor3 (a.take i) (b.take i) (c.take i)) B
    exact ⟨_, _, loopC_done (by rw [show firstOf lp10_0 = some 4 from rfl, hst]; exact h) (by simp), ρ, rfl, rfl, hg⟩
  | succ m ih =>
    intro i st hm hi hst
    have hx := List.getElem?_eq_getElem (l := a) (i := i) (by omega)
    have hy := List.getElem?_eq_getElem (l := b) (i := i) (by omega)
    have hz := List.getElem?_eq_getElem (l := c) (i := i) (by omega)
    have hv := xor3_get (a.take n) (b.take n) (c.take n) i _ _ _ (by rw [List.getElem?_take_of_lt (by omega)]; exact hx) (by rw [List.getElem?_take_of_lt (by omega)]; exact hy) (by rw [List.getElem?_take_of_lt (by omega)]; exact hz)
    obtain ⟨ρ, h, hg⟩ := body10_ok C a b c n i _ hys _ _ _ hx hy hz hv (by omega) hn B
    obtain ⟨x, st', h4, h5⟩ := ih (i + 1) _ (by omega) (by omega) hg
    exact ⟨x, st', loopC_next (by rw [show firstOf lp10_0 = some 4 from rfl, hst]; exact h) h4, h5⟩

theorem min_if (a b : Nat) : (if (b : Int) < (a : Int) then D.int .i64 (b : Int) else D.int .i64 (a : Int)) = D.int .i64 ((min a b : Nat) : Int) := by
  split <;> congr 1 <;> omega

set_option maxRecDepth 10000 in
set_option maxHeartbeats 4000000 in
theorem run10 (C : Callees) (hk : Known02 C) (hs : C 37 [] [] = some (.bool true, [])) (d1 d2 d3 : D) (a b c : List UInt8) (hd1 : ArD d1 a) (hd2 : ArD d2 b) (hd3 : ArD d3 c) :
    runV T C fi10 [d1, d2, d3] [] = some (.bool true, []) := by
  rw [e_run _ _ _ rfl]
  have m1 : (if (b.length : Int) < (a.length : Int) then (b.length : Int) else (a.length : Int)) = ((min a.length b.length : Nat) : Int) := by split <;> omega
  have m2 : (if (c.length : Int) < ((min a.length b.length : Nat) : Int) then (c.length : Int) else ((min a.length b.length : Nat) : Int)) = ((min (min a.length b.length) c.length : Nat) : Int) := by split <;> omega
  have m3 : (if (300 : Int) < ((min (min a.length b.length) c.length : Nat) : Int) then (300 : Int) else ((min (min a.length b.length) c.length : Nat) : Int)) = ((min (min (min a.length b.length) c.length) 300 : Nat) : Int) := by split <;> omega
  have l1 : min (min (min a.length b.length) c.length) 300 ≤ a.length := by omega
  have l2 : min (min (min a.length b.length) c.length) 300 ≤ b.length := by omega
  have l3 : min (min (min a.length b.length) c.length) 300 ≤ c.length := by omega
  have l4 : min (min (min a.length b.length) c.length) 300 ≤ 300 := by omega
  generalize hnn : min (min (min a.length b.length) c.length) 300 = n at m3 l1 l2 l3 l4
  have k1 : (0 : Int) ≤ n := by omega
  have k2 : n ≤ 140737488355328 := by omega
  have hla : (a.take n).length = n := by simp; omega
  have hlb : (b.take n).length = n := by simp; omega
  have hlc : (c.take n).length = n := by simp; omega
  have hys : (xor3 (a.take n) (b.take n) (c.take n)).length = n := by rw [xor3_len _ _ _ (by omega) (by omega), hla]
  by_cases hall : d1 = .vec 1 (a.map byteD) .none ∧ d2 = .vec 1 (b.map byteD) .none ∧ d3 = .vec 1 (c.map byteD) .none
  · obtain ⟨rfl, rfl, rfl⟩ := hall
    clear hd1 hd2 hd3
    have hx1 := more_lt 0 (a.take n)
    have hx2 := more_lt 0 (b.take n)
    have hx3 := more_lt 0 (c.take n)
    have s0 : ∀ p, C 38 [.vec 1 ((xor3 (a.take n) (b.take n) (c.take n)).map byteD) p] [] = some (.int .u32 ((moreS 0 (a.take n) ^^^ moreS 0 (b.take n) ^^^ moreS 0 (c.take n) : Nat) : Int), []) := fun p => by
      rw [← more_xor3 _ _ _ (by omega) (by omega)]
      exact hk.sum _ _ [] (.inr ⟨p, rfl⟩) (by omega)
    have s1 : ∀ p, C 38 [.vec 1 ((a.take n).map byteD) p] [] = some (.int .u32 (moreS 0 (a.take n) : Nat), []) := fun p => hk.sum _ _ [] (.inr ⟨p, rfl⟩) (by omega)
    have s2 : ∀ p, C 38 [.vec 1 ((b.take n).map byteD) p] [] = some (.int .u32 (moreS 0 (b.take n) : Nat), []) := fun p => hk.sum _ _ [] (.inr ⟨p, rfl⟩) (by omega)
    have s3 : ∀ p, C 38 [.vec 1 ((c.take n).map byteD) p] [] = some (.int .u32 (moreS 0 (c.take n) : Nat), []) := fun p => hk.sum _ _ [] (.inr ⟨p, rfl⟩) (by omega)
    have e1 : (xor3 (a.take n) (b.take n) (c.take n)).take n = xor3 (a.take n) (b.take n) (c.take n) := List.take_of_length_le (by omega)
    generalize moreS 0 (a.take n) = u at s0 s1 hx1
    generalize moreS 0 (b.take n) = v at s0 s2 hx2
    generalize moreS 0 (c.take n) = w at s0 s3 hx3
    have x1 := xor_u32 hx1 hx2
    have x2 := xor_u32 (Nat.xor_lt_two_pow (n := 32) hx1 hx2) hx3
    simp only [fi10, Tryd.f10, an10, m1, m2, m3, k1, k2, rep_zero, Nat.mul_one, Int.toNat_natCast, T3, T5, T34, T57, e_seq, e_region, e_dyn, e_dynS, stepD, accs, accP, accW, simpleOp, isAl, isExt, flipD, D.fresh1, D.row, D.plain, D.plain.plainL, St.close, St.close1, St.borrow, thawV, D.plainU, List.flatten_cons, List.flatten_nil, e_block, e_cond, e_ret, e_skip, e_exit, e_plain, e_guard, e_nil, e_op, e_ifT, e_ifF, e_true, e_false, e_loop, e_l, e_top, e_seqN, e_seqE, e_seqR, e_blockN, e_blockR, e_blockE,
    e_finN, e_finX, e_finR, retV, resV, resL, outCL, outC, outL, outD, wantedV, opV, An.at_, prune, List.map_cons, List.map_nil, envOf, get, put, eval, ofV, nbeq, nble, binV, binV.aggV, unV, intV, eqOp, isConst, natV, optV, loadV, loadC, storeV, setC, St.at_, partV, indexAddrV, fieldAddrV, sliceV, sliceV.rowSl, sliceV.strSl, bounds, cutP,
    builtinV, lenV, maxL, maxV, appendV, St.elems, roomy, rowOf, rowS, isStr, esz, tdOf, convV, buildV, fillV, partsV, okParts, fillL, D.whole, D.demoteC, D.demote, demoteL, D.global, D.leaf, D.cells, TI.agg, TD.rowish, callOpV, CC, keepB, St.borrowL, St.borrow, D.isLsl, adoptR, adoptC, adoptCL, adoptL, adopt, upd,
    List.toArray, Array.toList, List.length_cons, List.length_nil, List.length_map, List.length_append, List.length_replicate, List.replicate_succ, List.replicate_zero, List.replicate_one, ← List.map_take, ← List.map_drop, List.drop_zero, List.take_succ_cons, List.take_zero, List.take_nil, List.drop_succ_cons, List.drop_nil, Nat.zero_le, Nat.le_refl, Nat.sub_zero, List.getElem?_cons_succ, List.getElem?_cons_zero, List.getElem?_nil, List.any_cons, List.any_nil, List.all_cons, List.all_nil, List.append_nil, List.nil_append, List.cons_append, List.set_cons_zero, List.set_cons_succ,
    cond_true, cond_false, decide_true, decide_false, Bool.true_and, Bool.and_true, Bool.false_and, Bool.and_false, Bool.true_or, Bool.or_true, Bool.false_or, Bool.or_false, Bool.not_true, Bool.not_false, Bool.and_self, Bool.or_self, bT, bF, ieq, ine, decide_eq_true_eq, decide_not,
    Nat.reduceEqDiff, Nat.reduceAdd, Nat.reduceSub, Nat.reduceMul, Nat.reduceLeDiff, Nat.reduceLT, Nat.zero_add, Nat.add_zero, Option.getD_some, Option.getD_none, Option.isSome_some, Option.isSome_none, reduceIte, reduceCtorEq, and_self, and_true, true_and, not_true_eq_false, not_false_eq_true, false_imp_iff, forall_const, imp_self,
    Int.reduceNeg, Int.reduceLT, Int.reduceLE, Int.reduceGT, Int.reduceGE, Int.reduceAdd, Int.reduceSub, Int.reduceMul, Int.reduceToNat, Int.reduceEq, ne_eq, eq_self, beq_self_eq_true]
    refine' in_loop (c' := lp10_0) (fin T _) ?h rfl ?q
    case h => exact loop10 C a b c n l1 l2 l3 l4 [] n 0 _ rfl (by omega) (by simp only [st10, an10, List.take_zero, List.nil_append, Nat.sub_zero, T3, T5, T34, T57, e_seq, e_region, e_dyn, e_dynS, stepD, accs, accP, accW, simpleOp, isAl, isExt, flipD, D.fresh1, D.row, D.plain, D.plain.plainL, St.close, St.close1, St.borrow, thawV, D.plainU, List.flatten_cons, List.flatten_nil, e_block, e_cond, e_ret, e_skip, e_exit, e_plain, e_guard, e_nil, e_op, e_ifT, e_ifF, e_true, e_false, e_loop, e_l, e_top, e_seqN, e_seqE, e_seqR, e_blockN, e_blockR, e_blockE,
    e_finN, e_finX, e_finR, retV, resV, resL, outCL, outC, outL, outD, wantedV, opV, An.at_, prune, List.map_cons, List.map_nil, envOf, get, put, eval, ofV, nbeq, nble, binV, binV.aggV, unV, intV, eqOp, isConst, natV, optV, loadV, loadC, storeV, setC, St.at_, partV, indexAddrV, fieldAddrV, sliceV, sliceV.rowSl, sliceV.strSl, bounds, cutP,
    builtinV, lenV, maxL, maxV, appendV, St.elems, roomy, rowOf, rowS, isStr, esz, tdOf, convV, buildV, fillV, partsV, okParts, fillL, D.whole, D.demoteC, D.demote, demoteL, D.global, D.leaf, D.cells, TI.agg, TD.rowish, callOpV, CC, keepB, St.borrowL, St.borrow, D.isLsl, adoptR, adoptC, adoptCL, adoptL, adopt, upd,
    List.toArray, Array.toList, List.length_cons, List.length_nil, List.length_map, List.length_append, List.length_replicate, List.replicate_succ, List.replicate_zero, List.replicate_one, ← List.map_take, ← List.map_drop, List.drop_zero, List.take_succ_cons, List.take_zero, List.take_nil, List.drop_succ_cons, List.drop_nil, Nat.zero_le, Nat.le_refl, Nat.sub_zero, List.getElem?_cons_succ, List.getElem?_cons_zero, List.getElem?_nil, List.any_cons, List.any_nil, List.all_cons, List.all_nil, List.append_nil, List.nil_append, List.cons_append, List.set_cons_zero, List.set_cons_succ,
    cond_true, cond_false, decide_true, decide_false, Bool.true_and, Bool.and_true, Bool.false_and, Bool.and_false, Bool.true_or, Bool.or_true, Bool.false_or, Bool.or_false, Bool.not_true, Bool.not_false, Bool.and_self, Bool.or_self, bT, bF, ieq, ine, decide_eq_true_eq, decide_not,
    Nat.reduceEqDiff, Nat.reduceAdd, Nat.reduceSub, Nat.reduceMul, Nat.reduceLeDiff, Nat.reduceLT, Nat.zero_add, Nat.add_zero, Option.getD_some, Option.getD_none, Option.isSome_some, Option.isSome_none, reduceIte, reduceCtorEq, and_self, and_true, true_and, not_true_eq_false, not_false_eq_true, false_imp_iff, forall_const, imp_self,
    Int.reduceNeg, Int.reduceLT, Int.reduceLE, Int.reduceGT, Int.reduceGE, Int.reduceAdd, Int.reduceSub, Int.reduceMul, Int.reduceToNat, Int.reduceEq, ne_eq, eq_self, beq_self_eq_true]; rfl)
    rintro x st' ⟨ρ, rfl, rfl, hg1, hg2, hg3, hg4, hg5⟩
    simp only [hg1, hg2, hg3, hg4, hg5, s0, s1, s2, s3, x1, x2, e1, hys, l1, l2, l3, k1, hs, Nat.le_refl, Nat.zero_le, Nat.mul_one, Int.toNat_natCast, bytes_global, List.all_nil, dp, T3, T5, T34, T57, e_seq, e_region, e_dyn, e_dynS, stepD, accs, accP, accW, simpleOp, isAl, isExt, flipD, D.fresh1, D.row, D.plain, D.plain.plainL, St.close, St.close1, St.borrow, thawV, D.plainU, List.flatten_cons, List.flatten_nil, e_block, e_cond, e_ret, e_skip, e_exit, e_plain, e_guard, e_nil, e_op, e_ifT, e_ifF, e_true, e_false, e_loop, e_l, e_top, e_seqN, e_seqE, e_seqR, e_blockN, e_blockR, e_blockE,
    e_finN, e_finX, e_finR, retV, resV, resL, outCL, outC, outL, outD, wantedV, opV, An.at_, prune, List.map_cons, List.map_nil, envOf, get, put, eval, ofV, nbeq, nble, binV, binV.aggV, unV, intV, eqOp, isConst, natV, optV, loadV, loadC, storeV, setC, St.at_, partV, indexAddrV, fieldAddrV, sliceV, sliceV.rowSl, sliceV.strSl, bounds, cutP,
    builtinV, lenV, maxL, maxV, appendV, St.elems, roomy, rowOf, rowS, isStr, esz, tdOf, convV, buildV, fillV, partsV, okParts, fillL, D.whole, D.demoteC, D.demote, demoteL, D.global, D.leaf, D.cells, TI.agg, TD.rowish, callOpV, CC, keepB, St.borrowL, St.borrow, D.isLsl, adoptR, adoptC, adoptCL, adoptL, adopt, upd,
    List.toArray, Array.toList, List.length_cons, List.length_nil, List.length_map, List.length_append, List.length_replicate, List.replicate_succ, List.replicate_zero, List.replicate_one, ← List.map_take, ← List.map_drop, List.drop_zero, List.take_succ_cons, List.take_zero, List.take_nil, List.drop_succ_cons, List.drop_nil, Nat.zero_le, Nat.le_refl, Nat.sub_zero, List.getElem?_cons_succ, List.getElem?_cons_zero, List.getElem?_nil, List.any_cons, List.any_nil, List.all_cons, List.all_nil, List.append_nil, List.nil_append, List.cons_append, List.set_cons_zero, List.set_cons_succ,
    cond_true, cond_false, decide_true, decide_false, Bool.true_and, Bool.and_true, Bool.false_and, Bool.and_false, Bool.true_or, Bool.or_true, Bool.false_or, Bool.or_false, Bool.not_true, Bool.not_false, Bool.and_self, Bool.or_self, bT, bF, ieq, ine, decide_eq_true_eq, decide_not,
    Nat.reduceEqDiff, Nat.reduceAdd, Nat.reduceSub, Nat.reduceMul, Nat.reduceLeDiff, Nat.reduceLT, Nat.zero_add, Nat.add_zero, Option.getD_some, Option.getD_none, Option.isSome_some, Option.isSome_none, reduceIte, reduceCtorEq, and_self, and_true, true_and, not_true_eq_false, not_false_eq_true, false_imp_iff, forall_const, imp_self,
    Int.reduceNeg, Int.reduceLT, Int.reduceLE, Int.reduceGT, Int.reduceGE, Int.reduceAdd, Int.reduceSub, Int.reduceMul, Int.reduceToNat, Int.reduceEq, ne_eq, eq_self, beq_self_eq_true]
  · have hn0 : n = 0 := by
      rcases hd1 with ⟨_, rfl⟩ | h1
      · simp only [List.length_nil] at hnn; omega
      rcases hd2 with ⟨_, rfl⟩ | h2
      · simp only [List.length_nil] at hnn; omega
      rcases hd3 with ⟨_, rfl⟩ | h3
      · simp only [List.length_nil] at hnn; omega
      exact absurd ⟨h1, h2, h3⟩ hall
    subst hn0
    obtain ⟨ρ, h, hg1, hg2, hg3, hg4, hg5⟩ := body10_end C d1 d2 d3 0 [] []
    have sv : ∀ p, C 38 [.vec 1 [] p] [] = some (.int .u32 0, []) := fun p => hk.sum _ [] [] (.inr ⟨p, rfl⟩) (by simp)
    have sn : C 38 [.nilsl] [] = some (.int .u32 0, []) := hk.sum _ [] [] (.inl ⟨rfl, rfl⟩) (by simp)
    have x0 : bitsV .xor .u32 0 0 = 0 := by decide
    have z1 : ((0 : Nat) : Int) = 0 := rfl
    rcases hd1 with ⟨rfl, rfl⟩ | rfl <;> rcases hd2 with ⟨rfl, rfl⟩ | rfl <;> rcases hd3 with ⟨rfl, rfl⟩ | rfl <;> first | (exfalso; exact hall ⟨rfl, rfl, rfl⟩) | skip
    all_goals (try simp only [List.length_nil] at m1 m2 m3)
    all_goals simp only [fi10, Tryd.f10, an10, m1, m2, m3, k1, k2, Nat.mul_one, Int.toNat_natCast, T3, T5, T34, T57, e_seq, e_region, e_dyn, e_dynS, stepD, accs, accP, accW, simpleOp, isAl, isExt, flipD, D.fresh1, D.row, D.plain, D.plain.plainL, St.close, St.close1, St.borrow, thawV, D.plainU, List.flatten_cons, List.flatten_nil, e_block, e_cond, e_ret, e_skip, e_exit, e_plain, e_guard, e_nil, e_op, e_ifT, e_ifF, e_true, e_false, e_loop, e_l, e_top, e_seqN, e_seqE, e_seqR, e_blockN, e_blockR, e_blockE,
    e_finN, e_finX, e_finR, retV, resV, resL, outCL, outC, outL, outD, wantedV, opV, An.at_, prune, List.map_cons, List.map_nil, envOf, get, put, eval, ofV, nbeq, nble, binV, binV.aggV, unV, intV, eqOp, isConst, natV, optV, loadV, loadC, storeV, setC, St.at_, partV, indexAddrV, fieldAddrV, sliceV, sliceV.rowSl, sliceV.strSl, bounds, cutP,
    builtinV, lenV, maxL, maxV, appendV, St.elems, roomy, rowOf, rowS, isStr, esz, tdOf, convV, buildV, fillV, partsV, okParts, fillL, D.whole, D.demoteC, D.demote, demoteL, D.global, D.leaf, D.cells, TI.agg, TD.rowish, callOpV, CC, keepB, St.borrowL, St.borrow, D.isLsl, adoptR, adoptC, adoptCL, adoptL, adopt, upd,
    List.toArray, Array.toList, List.length_cons, List.length_nil, List.length_map, List.length_append, List.length_replicate, List.replicate_succ, List.replicate_zero, List.replicate_one, ← List.map_take, ← List.map_drop, List.drop_zero, List.take_succ_cons, List.take_zero, List.take_nil, List.drop_succ_cons, List.drop_nil, Nat.zero_le, Nat.le_refl, Nat.sub_zero, List.getElem?_cons_succ, List.getElem?_cons_zero, List.getElem?_nil, List.any_cons, List.any_nil, List.all_cons, List.all_nil, List.append_nil, List.nil_append, List.cons_append, List.set_cons_zero, List.set_cons_succ,
    cond_true, cond_false, decide_true, decide_false, Bool.true_and, Bool.and_true, Bool.false_and, Bool.and_false, Bool.true_or, Bool.or_true, Bool.false_or, Bool.or_false, Bool.not_true, Bool.not_false, Bool.and_self, Bool.or_self, bT, bF, ieq, ine, decide_eq_true_eq, decide_not,
    Nat.reduceEqDiff, Nat.reduceAdd, Nat.reduceSub, Nat.reduceMul, Nat.reduceLeDiff, Nat.reduceLT, Nat.zero_add, Nat.add_zero, Option.getD_some, Option.getD_none, Option.isSome_some, Option.isSome_none, reduceIte, reduceCtorEq, and_self, and_true, true_and, not_true_eq_false, not_false_eq_true, false_imp_iff, forall_const, imp_self,
    Int.reduceNeg, Int.reduceLT, Int.reduceLE, Int.reduceGT, Int.reduceGE, Int.reduceAdd, Int.reduceSub, Int.reduceMul, Int.reduceToNat, Int.reduceEq, ne_eq, eq_self, beq_self_eq_true]
    all_goals refine in_loop (c' := lp10_0) (Q := fun x st' => st' = ⟨ρ, [some []], [], []⟩ ∧ x = .exit 0) (fin T _) ⟨_, _, loopC_done (by rw [show firstOf lp10_0 = some 4 from rfl]; exact h) (by simp), rfl, rfl⟩ rfl ?_
    all_goals (rintro x st' ⟨rfl, rfl⟩)
    all_goals simp only [hg1, hg2, hg3, hg4, hg5, sv, sn, x0, z1, hs, Nat.le_refl, Nat.zero_le, Nat.mul_one, Int.toNat_natCast, List.all_nil, List.take_nil, List.take_zero, List.map_nil, List.length_nil, dp, T3, T5, T34, T57, e_seq, e_region, e_dyn, e_dynS, stepD, accs, accP, accW, simpleOp, isAl, isExt, flipD, D.fresh1, D.row, D.plain, D.plain.plainL, St.close, St.close1, St.borrow, thawV, D.plainU, List.flatten_cons, List.flatten_nil, e_block, e_cond, e_ret, e_skip, e_exit, e_plain, e_guard, e_nil, e_op, e_ifT, e_ifF, e_true, e_false, e_loop, e_l, e_top, e_seqN, e_seqE, e_seqR, e_blockN, e_blockR, e_blockE,
    e_finN, e_finX, e_finR, retV, resV, resL, outCL, outC, outL, outD, wantedV, opV, An.at_, prune, List.map_cons, List.map_nil, envOf, get, put, eval, ofV, nbeq, nble, binV, binV.aggV, unV, intV, eqOp, isConst, natV, optV, loadV, loadC, storeV, setC, St.at_, partV, indexAddrV, fieldAddrV, sliceV, sliceV.rowSl, sliceV.strSl, bounds, cutP,
    builtinV, lenV, maxL, maxV, appendV, St.elems, roomy, rowOf, rowS, isStr, esz, tdOf, convV, buildV, fillV, partsV, okParts, fillL, D.whole, D.demoteC, D.demote, demoteL, D.global, D.leaf, D.cells, TI.agg, TD.rowish, callOpV, CC, keepB, St.borrowL, St.borrow, D.isLsl, adoptR, adoptC, adoptCL, adoptL, adopt, upd,
    List.toArray, Array.toList, List.length_cons, List.length_nil, List.length_map, List.length_append, List.length_replicate, List.replicate_succ, List.replicate_zero, List.replicate_one, ← List.map_take, ← List.map_drop, List.drop_zero, List.take_succ_cons, List.take_zero, List.take_nil, List.drop_succ_cons, List.drop_nil, Nat.zero_le, Nat.le_refl, Nat.sub_zero, List.getElem?_cons_succ, List.getElem?_cons_zero, List.getElem?_nil, List.any_cons, List.any_nil, List.all_cons, List.all_nil, List.append_nil, List.nil_append, List.cons_append, List.set_cons_zero, List.set_cons_succ,
    cond_true, cond_false, decide_true, decide_false, Bool.true_and, Bool.and_true, Bool.false_and, Bool.and_false, Bool.true_or, Bool.or_true, Bool.false_or, Bool.or_false, Bool.not_true, Bool.not_false, Bool.and_self, Bool.or_self, bT, bF, ieq, ine, decide_eq_true_eq, decide_not,
    Nat.reduceEqDiff, Nat.reduceAdd, Nat.reduceSub, Nat.reduceMul, Nat.reduceLeDiff, Nat.reduceLT, Nat.zero_add, Nat.add_zero, Option.getD_some, Option.getD_none, Option.isSome_some, Option.isSome_none, reduceIte, reduceCtorEq, and_self, and_true, true_and, not_true_eq_false, not_false_eq_true, false_imp_iff, forall_const, imp_self,
    Int.reduceNeg, Int.reduceLT, Int.reduceLE, Int.reduceGT, Int.reduceGE, Int.reduceAdd, Int.reduceSub, Int.reduceMul, Int.reduceToNat, Int.reduceEq, ne_eq, eq_self, beq_self_eq_true]

end Go.Proofs.YtdmlojinmkcldaaDoor.V
