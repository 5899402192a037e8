/-
Layer 1: IntsBack.
-/
import Derived.Test.YtploddijjofphaaDoorLD
namespace Go.Proofs.YtploddijjofphaaDoor.V
open Go Go.RowKit
set_option linter.unusedSimpArgs false
set_option linter.unusedVariables false

/-! warren/warrenlaw01.IntsBack -/
def an6 : An := ⟨fun _ => .none, fun _ => 0, fun _ => false, fun _ => .none⟩
noncomputable def fi6 : FI := ⟨2, 151, Tryd.f6.body.getD .skip, Tryd.f6.results.toList, an6, false, false⟩
theorem ok6 : FnOk Tryd.prog 6 fi6 := ⟨⟨Tryd.f6, Tryd.func6, by kernel_rfl, rfl, rfl, rfl⟩, by decide, by kernel_rfl, fun h => by cases h⟩
variable {C : Callees}

theorem sub_u64 {a b : Nat} (h : b ≤ a) (ha : a < 18446744073709551616) : IntKind.u64.wrap ((a : Int) - (b : Int)) = ((a - b : Nat) : Int) := by rw [wrap_u64 (by omega) (by omega)]; omega

theorem tmodN (a b : Nat) : (a : Int).tmod (b : Int) = ((a % b : Nat) : Int) := by rw [Int.tmod_eq_emod_of_nonneg (by omega)]; rfl

/-- What Signed gives back is, by its lowest bits, what it was. -/
theorem signed_low {low k : Nat} (h1 : 1 ≤ k) (h2 : k ≤ 63) (hl : low < 2 ^ k) :
    ∃ z : Int, signedS low k = (z, 0) ∧ (∃ m : Nat, IntKind.u64.wrap z = m ∧ m % 2 ^ k = low) ∧ (z < 0 ↔ 2 ^ (k - 1) ≤ low) := by
  have e0 : ¬ ((k : Int) < 1 ∨ (k : Int) > 64) := by omega
  have hs := pow_split h1
  have hp := pow_64 (b := k) (by omega)
  refine ⟨if low < 2 ^ (k - 1) then (low : Int) else (low : Int) - (2 ^ k : Nat), ?_, ?_, ?_⟩
  · unfold signedS
    rw [if_neg e0, Int.toNat_natCast, if_neg (by omega)]
  · have hk := pow_lt (x := k) (by omega)
    have hP0 : 0 < 2 ^ (64 - k) := Nat.pow_pos (by decide)
    split
    · exact ⟨low, wrap_u64 (by omega) (by omega), Nat.mod_eq_of_lt hl⟩
    · refine ⟨18446744073709551616 - 2 ^ k + low, by rw [wrap_u64_mod]; omega, ?_⟩
      generalize 2 ^ k = q at *
      generalize 2 ^ (64 - k) = p at *
      have : 18446744073709551616 - q + low = low + q * (p - 1) := by rw [Nat.mul_sub, Nat.mul_one, Nat.mul_comm q p, hp]; omega
      rw [this, Nat.add_mul_mod_self_left, Nat.mod_eq_of_lt hl]
  · split <;> omega

/-- What Up gives back. -/
theorem up_law {v k : Nat} (hv : v < 18446744073709551616) (h1 : 1 ≤ k) (h2 : k ≤ 63) :
    (∃ u : Nat, upS v k = (u, 0) ∧ v ≤ u ∧ u < 18446744073709551616 ∧ u - v < 2 ^ k ∧ u % 2 ^ k = 0) ∨ (upS v k = (0, 2) ∧ 18446744073709551616 - 2 ^ k < v) := by
  have hk := pow_lt (x := k) (by omega)
  have hp0 : 0 < 2 ^ k := Nat.pow_pos (by decide)
  have hdm := Nat.div_add_mod' v (2 ^ k)
  have hml := Nat.mod_lt v hp0
  have e0 : ¬ ((k : Int) < 0 ∨ (k : Int) ≥ 64) := by omega
  have hq := Nat.mul_mod_left (v / 2 ^ k) (2 ^ k)
  unfold upS
  rw [if_neg e0, Int.toNat_natCast]
  generalize v / 2 ^ k * 2 ^ k = q at hdm hq ⊢
  by_cases h3 : v % 2 ^ k = 0
  · rw [if_pos h3]; exact .inl ⟨v, rfl, Nat.le_refl _, hv, by omega, h3⟩
  · rw [if_neg h3]
    by_cases h4 : q + 2 ^ k < 18446744073709551616
    · rw [if_pos h4]; exact .inl ⟨_, rfl, by omega, h4, by omega, by rw [Nat.add_mod_right]; exact hq⟩
    · rw [if_neg h4]; exact .inr ⟨rfl, by omega⟩

theorem bits_of (m : Nat) : IntKind.i64.wrap ((((m : Int).tmod 63))) = ((m % 63 : Nat) : Int) ∧ IntKind.i64.wrap (1 + ((m % 63 : Nat) : Int)) = ((m % 63 + 1 : Nat) : Int) := by
  have h : (m : Int).tmod 63 = ((m % 63 : Nat) : Int) := tmodN m 63
  refine ⟨by rw [h]; exact wrapI (by omega) (by omega), by rw [wrapI (by omega) (by omega)]; omega⟩

set_option maxRecDepth 10000 in
set_option maxHeartbeats 8000000 in
theorem run6 (hC : Lib01 C) (v m : Nat) (hv : v < 18446744073709551616) (hm : m < 256) (B : Hp) :
    runV T C fi6 [.int .u64 v, .int .u8 m] B = some (.bool true, B) := by
  rw [e_run _ _ _ rfl]
  obtain ⟨b1, b2⟩ := bits_of m
  have hk1 : 1 ≤ m % 63 + 1 := by omega
  have hk2 : m % 63 + 1 ≤ 63 := by omega
  have b1' : IntKind.i64.wrap ((m : Int).tmod 63) = ((m % 63 : Nat) : Int) := b1
  generalize hkk : m % 63 + 1 = k at b2 hk1 hk2
  have c1 : IntKind.u64.wrap (k : Int) = k := wrap_u64 (by omega) (by omega)
  have c2 : IntKind.i64.wrap ((k : Int) - 1) = ((k - 1 : Nat) : Int) := by rw [wrapI (by omega) (by omega)]; omega
  have c3 : IntKind.u64.wrap ((k - 1 : Nat) : Int) = ((k - 1 : Nat) : Int) := wrap_u64 (by omega) (by omega)
  have c4 := shl_one (b := k) (by omega)
  have c5 := shl_one (b := k - 1) (by omega)
  have c6 : ¬ (k : Int) < 0 := by omega
  have c7 : ¬ ((k - 1 : Nat) : Int) < 0 := by omega
  have hp0 : 0 < 2 ^ k := Nat.pow_pos (by decide)
  have hpk := pow_lt (x := k) (by omega)
  have c8 : ¬ ((2 ^ k : Nat) : Int) = 0 := by omega
  have c9 := tmodN v (2 ^ k)
  have hlow := Nat.mod_lt v hp0
  have hlv := Nat.mod_le v (2 ^ k)
  obtain ⟨z, s1, ⟨y, s2, s3⟩, s4⟩ := signed_low hk1 hk2 hlow
  have d1 := c30 hC (v % 2 ^ k) k (by omega)
  rw [s1] at d1
  have d2 := tmodN y (2 ^ k)
  rw [s3] at d2
  have d3 := c32 hC v k hv
  have hb := bitsN_64 hv
  have e1 := c37 hC v hv
  have e2 := c39 hC v hv
  have e3 := c35 hC v hv
  have e4 := c41 hC
  have e5 := hC.num
  have hsg : ((z < 0) = True ∧ (((v % 2 ^ k : Nat) : Int) ≥ ((2 ^ (k - 1) : Nat) : Int)) = True) ∨ ((z < 0) = False ∧ (((v % 2 ^ k : Nat) : Int) ≥ ((2 ^ (k - 1) : Nat) : Int)) = False) := by
    by_cases hz : z < 0
    · exact .inl ⟨eq_true hz, eq_true (by have := s4.1 hz; omega)⟩
    · exact .inr ⟨eq_false hz, eq_false (fun h => hz (s4.2 (by omega)))⟩
  have hz0 : v = 0 ∨ 0 < v := Nat.eq_zero_or_pos v
  -- behind Up
  have hn : v = 0 → lowS v = -1 ∧ (bitsN v : Int) - 1 = -1 ∧ onesN v = 0 := fun h => by subst h; exact ⟨rfl, rfl, ones_zero⟩
  have hp : 0 < v → ∃ (c : Nat) (h : Nat), lowS v = (c : Int) ∧ (bitsN v : Int) - 1 = (h : Int) ∧ c ≤ h ∧ h < 64 ∧ v / 2 ^ h = 1 ∧ 2 ^ c ≤ v ∧ onesN (v - 2 ^ c) + 1 = onesN v := fun h => by
    have hc := ctz_lt v h
    refine ⟨ctzN v, bitsN v - 1, by unfold lowS; rw [if_neg (by omega)], by omega, by omega, by omega, high_bit h, ctz_pow_le v h, ones_drop v h⟩
  have ho := ones_le v
  generalize lowS v = lo at e1 hn hp
  generalize (bitsN v : Int) - 1 = hi at e2 hn hp
  rcases up_law hv hk1 hk2 with ⟨u, u1, u2, u3, u4, u5⟩ | ⟨u1, u2⟩
  · rw [u1] at d3
    have f1 : ¬ (u : Int) < (v : Int) := by omega
    have f2 : IntKind.u64.wrap ((u : Int) - (v : Int)) = ((u - v : Nat) : Int) := by rw [wrap_u64 (by omega) (by omega)]; omega
    have f3 : ¬ ((u - v : Nat) : Int) ≥ ((2 ^ k : Nat) : Int) := by omega
    have f4 : (u : Int).tmod ((2 ^ k : Nat) : Int) = 0 := by rw [tmodN, u5]; rfl
    rcases hz0 with h0 | h0
    · obtain ⟨t1, t2, t3⟩ := hn h0
      have t4 : ((v : Int) = 0) = True := eq_true (by omega)
      have t5 : ((onesN v : Nat) : Int) = 0 := by omega
      rw [t1] at e1; rw [t2] at e2
      rcases hsg with ⟨q1, q2⟩ | ⟨q1, q2⟩ <;>
      simp only [fi6, Tryd.f6, an6, b1', b2, c1, c2, c3, c4, c5, c6, c7, c8, c9, d1, s2, d2, d3, q1, q2, f1, f2, f3, f4, e1, e2, e3, e4, errD_zero, t4, t5, T2, T3, T4, T5, T30, T49, T62, e_seq, e_region, e_dyn, e_dynS, stepD, accs, accP, accW, simpleOp, isAl, isExt, flipD, D.fresh1, D.row, D.plain, D.plain.plainL, St.close, St.close1, St.borrow, List.flatten_cons, List.flatten_nil, e_block, e_cond, e_ret, e_skip, e_exit, e_plain, e_guard, e_nil, e_op, e_ifT, e_ifF, e_true, e_false, e_loop, e_l, e_top, e_seqN, e_seqE, e_seqR, e_blockN, e_blockR, e_blockE,
    begin_f, begin_t, end_f, e_finN, e_finX, e_finR, retV, resV, resL, outCL, outC, outL, outD, wantedV, opV, An.mid, thawV, D.plainU, prune, List.map_cons, List.map_nil, envOf, get, put, eval, evalT, nz, argsV, capsV, ofV, nbeq, nble, binV, binV.aggV, unV, intV, eqOp, isConst, natV, optV, loadV, loadC, storeV, setC, St.at_, partV, partTy, indexAddrV, fieldAddrV, sliceV, sliceV.rowSl, sliceV.strSl, bounds, cutP,
    builtinV, lenV, maxL, maxV, appendV, St.elems, roomy, rowOf, rowS, isStr, esz, tdOf, convV, buildV, fillV, partsV, okParts, fillL, D.whole, D.demoteC, D.demote, demoteL, D.global, D.flat, D.leaf, D.cells, TI.agg, TD.rowish, callOpV, moveL, CC, keepB, St.borrowL, St.borrow, D.isLsl, adoptR, adoptC, adoptCL, adoptL, adopt,
    List.toArray, Array.toList, List.length_cons, List.length_nil, List.length_map, List.length_append, List.length_replicate, List.replicate_succ, List.replicate_zero, List.replicate_one, ← List.map_take, ← List.map_drop, List.isEmpty_cons, List.isEmpty_nil, List.drop_zero, List.take_succ_cons, List.take_zero, List.take_nil, List.drop_succ_cons, List.drop_nil, Nat.zero_le, Nat.le_refl, Nat.sub_zero, List.getElem?_cons_succ, List.getElem?_cons_zero, List.getElem?_nil, List.any_cons, List.any_nil, List.all_cons, List.all_nil, List.append_nil, List.nil_append, List.cons_append, List.set_cons_zero, List.set_cons_succ,
    cond_true, cond_false, decide_true, decide_false, Bool.true_and, Bool.and_true, Bool.false_and, Bool.and_false, Bool.true_or, Bool.or_true, Bool.false_or, Bool.or_false, Bool.not_true, Bool.not_false, Bool.and_self, Bool.or_self, bT, bF, ieq, ine, decide_eq_true_eq, decide_not,
    Nat.reduceEqDiff, Nat.reduceAdd, Nat.reduceSub, Nat.reduceMul, Nat.reduceLeDiff, Nat.reduceLT, Nat.zero_add, Nat.add_zero, Option.getD_some, Option.getD_none, Option.isSome_some, Option.isSome_none, reduceIte, reduceCtorEq, and_self, and_true, true_and, not_true_eq_false, not_false_eq_true, false_imp_iff, forall_const, imp_self,
    Int.reduceNeg, Int.reduceLT, Int.reduceLE, Int.reduceGT, Int.reduceGE, Int.reduceAdd, Int.reduceSub, Int.reduceMul, Int.reduceToNat, Int.reduceEq, ne_eq, eq_self, beq_self_eq_true]
    · obtain ⟨c, h, t1, t2, t3, t4, t5, t6, t7⟩ := hp h0
      rw [t1] at e1; rw [t2] at e2
      have w1 : ¬ (v : Int) = 0 := by omega
      have w2 : (c : Int) ≥ 0 := by omega
      have w3 : (c : Int) ≤ (h : Int) := by omega
      have w4 : (h : Int) < 64 := by omega
      have w5 : IntKind.u64.wrap (c : Int) = c := wrap_u64 (by omega) (by omega)
      have w6 := shl_one (b := c) (by omega)
      have w7 := sub_u64 t6 hv
      have w8 := c35 hC (v - 2 ^ c) (Nat.lt_of_le_of_lt (Nat.sub_le _ _) hv)
      have w9 : IntKind.i64.wrap (((onesN v : Nat) : Int) - 1) = ((onesN (v - 2 ^ c) : Nat) : Int) := by rw [wrapI (by omega) (by omega)]; omega
      have w10 : IntKind.u64.wrap (h : Int) = h := wrap_u64 (by omega) (by omega)
      have w11 : shrV .u64 (v : Int) (h : Int) = 1 := by rw [shr_nat .u64 v h (by show _ ≤ 64; omega), t5]; rfl
      have w12 : ¬ (c : Int) < 0 := by omega
      have w13 : ¬ (h : Int) < 0 := by omega
      rcases hsg with ⟨q1, q2⟩ | ⟨q1, q2⟩ <;>
      simp only [fi6, Tryd.f6, an6, b1', b2, c1, c2, c3, c4, c5, c6, c7, c8, c9, d1, s2, d2, d3, q1, q2, f1, f2, f3, f4, e1, e2, e3, e4, errD_zero, w1, w2, w3, w4, w5, w6, w7, w8, w9, w10, w11, w12, w13, T2, T3, T4, T5, T30, T49, T62, e_seq, e_region, e_dyn, e_dynS, stepD, accs, accP, accW, simpleOp, isAl, isExt, flipD, D.fresh1, D.row, D.plain, D.plain.plainL, St.close, St.close1, St.borrow, List.flatten_cons, List.flatten_nil, e_block, e_cond, e_ret, e_skip, e_exit, e_plain, e_guard, e_nil, e_op, e_ifT, e_ifF, e_true, e_false, e_loop, e_l, e_top, e_seqN, e_seqE, e_seqR, e_blockN, e_blockR, e_blockE,
    begin_f, begin_t, end_f, e_finN, e_finX, e_finR, retV, resV, resL, outCL, outC, outL, outD, wantedV, opV, An.mid, thawV, D.plainU, prune, List.map_cons, List.map_nil, envOf, get, put, eval, evalT, nz, argsV, capsV, ofV, nbeq, nble, binV, binV.aggV, unV, intV, eqOp, isConst, natV, optV, loadV, loadC, storeV, setC, St.at_, partV, partTy, indexAddrV, fieldAddrV, sliceV, sliceV.rowSl, sliceV.strSl, bounds, cutP,
    builtinV, lenV, maxL, maxV, appendV, St.elems, roomy, rowOf, rowS, isStr, esz, tdOf, convV, buildV, fillV, partsV, okParts, fillL, D.whole, D.demoteC, D.demote, demoteL, D.global, D.flat, D.leaf, D.cells, TI.agg, TD.rowish, callOpV, moveL, CC, keepB, St.borrowL, St.borrow, D.isLsl, adoptR, adoptC, adoptCL, adoptL, adopt,
    List.toArray, Array.toList, List.length_cons, List.length_nil, List.length_map, List.length_append, List.length_replicate, List.replicate_succ, List.replicate_zero, List.replicate_one, ← List.map_take, ← List.map_drop, List.isEmpty_cons, List.isEmpty_nil, List.drop_zero, List.take_succ_cons, List.take_zero, List.take_nil, List.drop_succ_cons, List.drop_nil, Nat.zero_le, Nat.le_refl, Nat.sub_zero, List.getElem?_cons_succ, List.getElem?_cons_zero, List.getElem?_nil, List.any_cons, List.any_nil, List.all_cons, List.all_nil, List.append_nil, List.nil_append, List.cons_append, List.set_cons_zero, List.set_cons_succ,
    cond_true, cond_false, decide_true, decide_false, Bool.true_and, Bool.and_true, Bool.false_and, Bool.and_false, Bool.true_or, Bool.or_true, Bool.false_or, Bool.or_false, Bool.not_true, Bool.not_false, Bool.and_self, Bool.or_self, bT, bF, ieq, ine, decide_eq_true_eq, decide_not,
    Nat.reduceEqDiff, Nat.reduceAdd, Nat.reduceSub, Nat.reduceMul, Nat.reduceLeDiff, Nat.reduceLT, Nat.zero_add, Nat.add_zero, Option.getD_some, Option.getD_none, Option.isSome_some, Option.isSome_none, reduceIte, reduceCtorEq, and_self, and_true, true_and, not_true_eq_false, not_false_eq_true, false_imp_iff, forall_const, imp_self,
    Int.reduceNeg, Int.reduceLT, Int.reduceLE, Int.reduceGT, Int.reduceGE, Int.reduceAdd, Int.reduceSub, Int.reduceMul, Int.reduceToNat, Int.reduceEq, ne_eq, eq_self, beq_self_eq_true]
  · rw [u1] at d3
    have d3 : ∀ B, C 32 [.int .u64 (v : Int), .int .i64 (k : Int)] B = some (.tuple [.int .u64 0, .iface 85 (.int .i64 2)], B) := d3
    have e5 : ∀ B, C 34 [.iface 85 (.int .i64 2)] B = some (.int .i64 2, B) := e5 2
    have f1 : IntKind.u64.wrap (0 - ((2 ^ k : Nat) : Int)) = ((18446744073709551616 - 2 ^ k : Nat) : Int) := by rw [wrap_u64_mod]; omega
    have f2 : ¬ (v : Int) ≤ ((18446744073709551616 - 2 ^ k : Nat) : Int) := by omega
    rcases hz0 with h0 | h0
    · omega
    · obtain ⟨c, h, t1, t2, t3, t4, t5, t6, t7⟩ := hp h0
      rw [t1] at e1; rw [t2] at e2
      have w1 : ¬ (v : Int) = 0 := by omega
      have w2 : (c : Int) ≥ 0 := by omega
      have w3 : (c : Int) ≤ (h : Int) := by omega
      have w4 : (h : Int) < 64 := by omega
      have w5 : IntKind.u64.wrap (c : Int) = c := wrap_u64 (by omega) (by omega)
      have w6 := shl_one (b := c) (by omega)
      have w7 := sub_u64 t6 hv
      have w8 := c35 hC (v - 2 ^ c) (Nat.lt_of_le_of_lt (Nat.sub_le _ _) hv)
      have w9 : IntKind.i64.wrap (((onesN v : Nat) : Int) - 1) = ((onesN (v - 2 ^ c) : Nat) : Int) := by rw [wrapI (by omega) (by omega)]; omega
      have w10 : IntKind.u64.wrap (h : Int) = h := wrap_u64 (by omega) (by omega)
      have w11 : shrV .u64 (v : Int) (h : Int) = 1 := by rw [shr_nat .u64 v h (by show _ ≤ 64; omega), t5]; rfl
      have w12 : ¬ (c : Int) < 0 := by omega
      have w13 : ¬ (h : Int) < 0 := by omega
      rcases hsg with ⟨q1, q2⟩ | ⟨q1, q2⟩ <;>
      simp only [fi6, Tryd.f6, an6, b1', b2, c1, c2, c3, c4, c5, c6, c7, c8, c9, d1, s2, d2, d3, q1, q2, f1, f2, e1, e2, e3, e4, e5, errD_zero, w1, w2, w3, w4, w5, w6, w7, w8, w9, w10, w11, w12, w13, T2, T3, T4, T5, T30, T49, T62, e_seq, e_region, e_dyn, e_dynS, stepD, accs, accP, accW, simpleOp, isAl, isExt, flipD, D.fresh1, D.row, D.plain, D.plain.plainL, St.close, St.close1, St.borrow, List.flatten_cons, List.flatten_nil, e_block, e_cond, e_ret, e_skip, e_exit, e_plain, e_guard, e_nil, e_op, e_ifT, e_ifF, e_true, e_false, e_loop, e_l, e_top, e_seqN, e_seqE, e_seqR, e_blockN, e_blockR, e_blockE,
    begin_f, begin_t, end_f, e_finN, e_finX, e_finR, retV, resV, resL, outCL, outC, outL, outD, wantedV, opV, An.mid, thawV, D.plainU, prune, List.map_cons, List.map_nil, envOf, get, put, eval, evalT, nz, argsV, capsV, ofV, nbeq, nble, binV, binV.aggV, unV, intV, eqOp, isConst, natV, optV, loadV, loadC, storeV, setC, St.at_, partV, partTy, indexAddrV, fieldAddrV, sliceV, sliceV.rowSl, sliceV.strSl, bounds, cutP,
    builtinV, lenV, maxL, maxV, appendV, St.elems, roomy, rowOf, rowS, isStr, esz, tdOf, convV, buildV, fillV, partsV, okParts, fillL, D.whole, D.demoteC, D.demote, demoteL, D.global, D.flat, D.leaf, D.cells, TI.agg, TD.rowish, callOpV, moveL, CC, keepB, St.borrowL, St.borrow, D.isLsl, adoptR, adoptC, adoptCL, adoptL, adopt,
    List.toArray, Array.toList, List.length_cons, List.length_nil, List.length_map, List.length_append, List.length_replicate, List.replicate_succ, List.replicate_zero, List.replicate_one, ← List.map_take, ← List.map_drop, List.isEmpty_cons, List.isEmpty_nil, List.drop_zero, List.take_succ_cons, List.take_zero, List.take_nil, List.drop_succ_cons, List.drop_nil, Nat.zero_le, Nat.le_refl, Nat.sub_zero, List.getElem?_cons_succ, List.getElem?_cons_zero, List.getElem?_nil, List.any_cons, List.any_nil, List.all_cons, List.all_nil, List.append_nil, List.nil_append, List.cons_append, List.set_cons_zero, List.set_cons_succ,
    cond_true, cond_false, decide_true, decide_false, Bool.true_and, Bool.and_true, Bool.false_and, Bool.and_false, Bool.true_or, Bool.or_true, Bool.false_or, Bool.or_false, Bool.not_true, Bool.not_false, Bool.and_self, Bool.or_self, bT, bF, ieq, ine, decide_eq_true_eq, decide_not,
    Nat.reduceEqDiff, Nat.reduceAdd, Nat.reduceSub, Nat.reduceMul, Nat.reduceLeDiff, Nat.reduceLT, Nat.zero_add, Nat.add_zero, Option.getD_some, Option.getD_none, Option.isSome_some, Option.isSome_none, reduceIte, reduceCtorEq, and_self, and_true, true_and, not_true_eq_false, not_false_eq_true, false_imp_iff, forall_const, imp_self,
    Int.reduceNeg, Int.reduceLT, Int.reduceLE, Int.reduceGT, Int.reduceGE, Int.reduceAdd, Int.reduceSub, Int.reduceMul, Int.reduceToNat, Int.reduceEq, ne_eq, eq_self, beq_self_eq_true]

end Go.Proofs.YtploddijjofphaaDoor.V
